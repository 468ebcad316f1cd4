/- Joined by program: Raised Single Low RefLow BitsX Tab15 Part15 Part15b Best15 Wo15 Core1. -/
import Derived.Test.YtcigobiolbojhaaZe
import Derived.Test.YtcigobiolbojhaaZd
import Derived.Test.YtcigobiolbojhaaZc
/- Law 17's own: raised. -/
namespace Go.Proofs.Ytcigobiolbojhaa.Vb
open Go.RowKit

theorem badB_raise {all : Nat} {o : Off} {more : Int} (h : badB all o = false) (h1 : 0 ≤ more) (h2 : o.c + more ≤ 1099511627776) : badB all ⟨o.g, o.c + more⟩ = false := by
  simp only [badB, Bool.or_eq_false_iff, beq_eq_false_iff_ne, Bool.not_eq_false', beq_iff_eq, decide_eq_false_iff_not] at h ⊢
  obtain ⟨⟨⟨a, b⟩, c⟩, d⟩ := h
  exact ⟨⟨⟨a, b⟩, by omega⟩, by omega⟩
theorem raiseL_len (l : List Off) (n : Nat) (more : Int) : (raiseL l n more).length = l.length := by simp [raiseL]
theorem checkE_raise {n : Int} {l : List Off} {j : Nat} {o : Off} {more : Int} (h : checkE n l = 0) (ho : l[j]? = some o) (h1 : 0 ≤ more) (h2 : o.c + more ≤ 1099511627776) : checkE n (raiseL l j more) = 0 := by
  unfold checkE at h ⊢
  by_cases hn : n < 1 ∨ 10 < n
  · rw [if_pos hn] at h; cases h
  · rw [if_neg hn] at h ⊢
    by_cases h8 : 8 < l.length
    · rw [if_pos h8] at h; cases h
    · rw [if_neg h8] at h
      rw [if_neg (by rw [raiseL_len]; exact h8)]
      cases hb : badAt (2 ^ n.toNat - 1) l with
      | some k => rw [hb] at h; cases h
      | none =>
        have hall := (badAt_none_iff _ l).1 hb
        have : badAt (2 ^ n.toNat - 1) (raiseL l j more) = none := (badAt_none_iff _ _).2 fun x hx => by
          obtain ⟨i, hi⟩ := List.getElem?_of_mem hx
          rw [raiseL_get] at hi
          cases hl : l[i]? with
          | none => rw [hl] at hi; cases hi
          | some y =>
            rw [hl] at hi
            simp only [Option.map_some, Option.some.injEq] at hi
            by_cases hij : i = j
            · subst hij
              rw [ho] at hl
              have hl' := Option.some.inj hl
              subst hl'
              rw [if_pos rfl] at hi
              subst hi
              exact badB_raise (hall o (List.mem_of_getElem? ho)) h1 h2
            · rw [if_neg hij] at hi
              subst hi
              exact hall y (List.mem_of_getElem? hl)
        rw [this]
theorem withE_in {n : Int} {bs : List (List Off)} {b : Nat} {l : List Off} (h : instE n bs = 0) (hb : b < bs.length) : withE n bs (b : Int) l = checkE n l := by
  unfold withE
  rw [if_neg (by simpa using h), if_neg (by omega)]
theorem raise_set {bs : List (List Off)} {b j : Nat} {l : List Off} {more : Int} (hl : bs[b]? = some l) : bs.set b (raiseL l j more) = raiseB bs b j more := by
  apply List.ext_getElem?
  intro i
  unfold raiseB
  rw [List.getElem?_set, List.getElem?_modify]
  have hlt := (List.getElem?_eq_some_iff.1 hl).1
  by_cases h : b = i
  · subst h
    rw [hl]
    simp [hlt]
  · cases bs[i]? <;> simp [h]
theorem raise_costs {n : Int} {bs : List (List Off)} {b j : Nat} {l : List Off} {o : Off} {more : Int} (hm : 0 < more) (hi : instE n bs = 0) (hi' : instE n (raiseB bs b j more) = 0) (hc : (bestC n bs)[b]? = some (j : Int)) (hl : bs[b]? = some l) (ho : l[j]? = some o) :
    W (raiseB bs b j more) (allOf n) = W bs (allOf n) + more ∧ (bestC n (raiseB bs b j more))[b]? = some (j : Int) ∧ (paysC n (raiseB bs b j more))[b]? = (paysC n bs)[b]? := by
  obtain ⟨h1, h2⟩ := choose_raise hm bs b (allOf n) j l o hc hl ho
  have hlt := (List.getElem?_eq_some_iff.1 hl).1
  refine ⟨h1, h2, ?_⟩
  have hl' : (raiseB bs b j more)[b]? = some (raiseL l j more) := by unfold raiseB; rw [List.getElem?_modify, hl]; simp
  have ho' : (raiseL l j more)[j]? = some ⟨o.g, o.c + more⟩ := by rw [raiseL_get, ho]; simp
  rw [paysC_get h2, paysC_get hc]
  unfold payAt
  rw [if_neg (by omega), if_neg (by omega), coinAt_some hl ho, coinAt_some hl' ho', h1]
  have hset : (raiseB bs b j more).set b [] = bs.set b [] := by
    rw [← raise_set hl, List.set_set]
  unfold woW
  rw [if_pos (instE_withE hi hlt), if_pos (instE_withE hi' (by unfold raiseB; simpa using hlt)), Int.toNat_natCast, hset]
  simp only
  congr 1
  omega

set_option maxHeartbeats 1600000 in
theorem all_raise {l : List Off} {j : Nat} {o : Off} {more : Int} (ho : l[j]? = some o) : (Off.all l).set (j * 2 + 1) (.int .i64 (o.c + more)) = Off.all (raiseL l j more) := by
  induction l generalizing j with
  | nil => simp at ho
  | cons x l ih =>
    cases j with
    | zero => simp at ho; subst ho; rfl
    | succ j =>
      have := ih (j := j) (by simpa using ho)
      have e : raiseL (x :: l) (j + 1) more = x :: raiseL l j more := rfl
      rw [e]
      simp only [Off.all, List.flatMap_cons, Off.cells] at this ⊢
      rw [show (j + 1) * 2 + 1 = j * 2 + 1 + 2 from by omega]
      simp only [List.cons_append, List.nil_append, List.set_cons_succ, this]

set_option maxRecDepth 100000 in
set_option maxHeartbeats 3200000 in
/-- how raised comes out where nothing is raised -/
theorem raised_no (n : Int) (bs : List (List Off)) (buyer more : Int) (W0 : Int) (vx cv pv : Value) (R R1 : Nat → Prop) (w : World) (hl : Buys w R vx bs) (hc : Sl w R1 cv bs.length 1 (ints (bestC n bs))) (_ : bs.length ≤ 40)
    (hno : buyer < 0 ∨ (bs.length : Int) ≤ buyer ∨ (∃ c, (bestC n bs)[buyer.toNat]? = some c ∧ c < 0) ∨ more < 1 ∨ 1000000 < more) :
    Calls Try.prog 34 #[.agg #[.int .i64 n, vx], .agg #[cv, .int .i64 W0, pv], .int .i64 buyer, .int .i64 more] w fun e w' => e = .returned (.bool true) ∧ Below w.heap.size w w' := by
  obtain ⟨_, ⟨_, A, cap, rfl, _⟩, _⟩ := id hl
  obtain ⟨_, CA, cc, rfl, _⟩ := id hc
  have HC := Lib.hid hc
  have hB2 := Lib.hid (((Below.refl w.heap.size w).alloc (Nat.le_refl _) (.cells #[.int .i64 n, .slice A bs.length cap] 24)).alloc (by simp) (.cells #[.slice CA bs.length cc, .int .i64 W0, pv] 36))
  clear hl hc
  by_cases h0 : buyer < 0
  · clear hno
    go_enter Try.func34, Try.ntmps34
    go_wp2
    go_ret
    exact ⟨rfl, hB2.out⟩
  · by_cases h1 : (bs.length : Int) ≤ buyer
    · clear hno
      go_enter Try.func34, Try.ntmps34
      go_wp2
      go_ret
      exact ⟨rfl, hB2.out⟩
    · obtain ⟨b, rfl⟩ := Int.eq_ofNat_of_zero_le (show 0 ≤ buyer by omega)
      rw [Int.toNat_natCast] at hno
      have hb : b < bs.length := by omega
      have hb' : ¬ bs.length ≤ b := by omega
      obtain ⟨bc, oc, c, rfl, _, hcb, hcell⟩ := HC.out.int_at hb
      rw [hcb] at hno
      have hcell' := cellAlloc (cellAlloc hcell (.cells #[.int .i64 n, .slice A bs.length cap] 24)) (.cells #[.slice (some ⟨bc, oc, none⟩) bs.length cc, .int .i64 W0, pv] 36)
      have hno' : c < 0 ∨ more < 1 ∨ 1000000 < more := by
        rcases hno with h | h | ⟨c', h, h'⟩ | h | h
        · omega
        · omega
        · injection h with h; subst h; exact .inl h'
        · exact .inr (.inl h)
        · exact .inr (.inr h)
      clear hno hcb hcell h0 h1 hb'
      by_cases h2 : c < 0
      · clear hno'
        go_enter Try.func34, Try.ntmps34
        go_wp2
        go_ret
        exact ⟨rfl, hB2.out⟩
      · by_cases h3 : more < 1
        · clear hno'
          go_enter Try.func34, Try.ntmps34
          go_wp2
          go_ret
          exact ⟨rfl, hB2.out⟩
        · have h4 : 1000000 < more := by omega
          clear hno'
          go_enter Try.func34, Try.ntmps34
          go_wp2
          go_ret
          exact ⟨rfl, hB2.out⟩

set_option maxRecDepth 100000 in
set_option maxHeartbeats 3200000 in
theorem raised_yes (n : Int) (bs : List (List Off)) (b : Nat) (more : Int) (j : Nat) (l : List Off) (o : Off) (vx cv pv : Value) (R R1 R2 : Nat → Prop) (w : World) (hl : Buys w R vx bs) (hi : instE n bs = 0)
    (hc : Sl w R1 cv bs.length 1 (ints (bestC n bs))) (hp : Sl w R2 pv bs.length 1 (ints (paysC n bs))) (hb : b < bs.length) (hcb : (bestC n bs)[b]? = some (j : Int)) (hlb : bs[b]? = some l) (ho : l[j]? = some o) (hm1 : 1 ≤ more) (hm2 : more ≤ 1000000) :
    Calls Try.prog 34 #[.agg #[.int .i64 n, vx], .agg #[cv, .int .i64 (W bs (allOf n)), pv], .int .i64 (b : Int), .int .i64 more] w fun e w' => e = .returned (.bool true) ∧ Below w.heap.size w w' := by
  have HB := Lib.hid hl
  have HCV := Lib.hid hc
  have HPV := Lib.hid hp
  have HI := Lib.hid hi
  have hbl := (instE_zero hi).2.2.1
  have hl8 := (instE_zero hi).2.2.2.1 l (List.mem_of_getElem? hlb)
  have hlen := List.getElem?_eq_some_iff.1 ho |>.1
  obtain ⟨vs, ⟨hvl, A, cap, rfl, hncap, hcap, hcells⟩, hvs⟩ := id hl
  obtain ⟨_, CA, cc, rfl, _⟩ := id hc
  obtain ⟨_, PA, pc, rfl, _⟩ := id hp
  obtain ⟨bq, off, rfl, _, hbq, hcs⟩ := hcells (by omega)
  obtain ⟨u, hu, hol⟩ := hvs b l hlb
  have hcu := hcs _ _ hu
  obtain ⟨⟨_, A1, cap1, rfl, _⟩, _⟩ := id hol
  obtain ⟨bc, oc, c, rfl, hbc, hcb', hcell⟩ := hc.int_at hb
  rw [hcb] at hcb'
  have hcc := (Option.some.inj hcb').symm
  subst hcc
  have HOL := Lib.hid hol
  have HCU := Lib.hid hcu
  have HCE := Lib.hid hcell
  obtain ⟨hof, ho0, ho1⟩ := HOL.out.2 o (List.mem_of_getElem? ho)
  have hok := ((okb_of (buys_wf hl) hi).1.offer hlb ho).2.2
  obtain ⟨hok1, hok2⟩ := hok
  have HO := Lib.hid ho
  have HLB := Lib.hid hlb
  have HCB := Lib.hid hcb
  have hbi : ¬ (bs.length : Int) ≤ (b : Int) := by omega
  have hbn : ¬ bs.length ≤ b := by omega
  have e1 : (0 : Int) ≤ (b : Int) := by omega
  have e2 : (b : Int) < (bs.length : Int) := by omega
  have e3 : (0 : Int) ≤ (j : Int) := by omega
  have e4 : (j : Int) < (l.length : Int) := by omega
  have hm3 : ¬ more < 1 := by omega
  have hm4 : ¬ 1000000 < more := by omega
  -- the world behind the two boxes
  have hX := (Blk.new w 24 #[.int .i64 n, .slice (some ⟨bq, off, none⟩) bs.length cap]).alloc (.cells #[.slice (some ⟨bc, oc, none⟩) bs.length cc, .int .i64 (W bs (allOf n)), .slice PA bs.length pc] 36)
  have hP : Blk ((w.alloc (.cells #[.int .i64 n, .slice (some ⟨bq, off, none⟩) bs.length cap] 24)).alloc (.cells #[.slice (some ⟨bc, oc, none⟩) bs.length cc, .int .i64 (W bs (allOf n)), .slice PA bs.length pc] 36)) (w.heap.size + 1) 36 #[.slice (some ⟨bc, oc, none⟩) bs.length cc, .int .i64 (W bs (allOf n)), .slice PA bs.length pc] := Blk.new' _ _ (by simp)
  have hB0 : Below w.heap.size w ((w.alloc (.cells #[.int .i64 n, .slice (some ⟨bq, off, none⟩) bs.length cap] 24)).alloc (.cells #[.slice (some ⟨bc, oc, none⟩) bs.length cc, .int .i64 (W bs (allOf n)), .slice PA bs.length pc] 36)) := ((Below.refl _ _).alloc (Nat.le_refl _) _).alloc (by simp) _
  have HX := Lib.hid hX
  have HP := Lib.hid hP
  have HB0 := Lib.hid hB0
  have d1 := (hB0.cell (p := ⟨bq, off + b, none⟩) hbq).trans hcu
  have d2 := (hB0.cell (p := ⟨bc, oc + b, none⟩) hbc).trans hcell
  have d3 := cellAlloc d1 (.cells #[] 45)
  have z1 : decide ((b : Int) < 0) = false := by simp
  have z2 : decide ((j : Int) < 0) = false := by simp
  have hown0 : (((w.alloc (.cells #[.int .i64 n, .slice (some ⟨bq, off, none⟩) bs.length cap] 24)).alloc (.cells #[.slice (some ⟨bc, oc, none⟩) bs.length cc, .int .i64 (W bs (allOf n)), .slice PA bs.length pc] 36)).alloc (.cells #[] 45)).ownsRow (w.heap.size + 2) 45 2 (.slice (some ⟨w.heap.size + 1 + 1, 0, none⟩) 0 0) 0 [] := by
    have h := own_empty ((w.alloc (.cells #[.int .i64 n, .slice (some ⟨bq, off, none⟩) bs.length cap] 24)).alloc (.cells #[.slice (some ⟨bc, oc, none⟩) bs.length cc, .int .i64 (W bs (allOf n)), .slice PA bs.length pc] 36)) (base := w.heap.size + 2) (by simp) 45 2
    simpa using h
  have HOWN0 := Lib.hid hown0
  clear hl hc hp hi hcells hvs hcs hu hol hcu hcell hX hP hB0 ho hlb hcb hcb' hvl hcap hown0
  go_enter Try.func34, Try.ntmps34
  go_wp2_with (
    at_builtin
    go_must (
      refine wpList_app _ rfl (.tmp 40) (.tmp 45) et_off rfl (w.heap.size + 2) (.slice (some ⟨w.heap.size + 1 + 1, 0, none⟩) 0 0) 0 [] rfl HOWN0.out R _ l.length (Off.all l) rfl ((HOL.out.grow HB0.out).1.alloc _) (Off.all_one l) (by omega) (by unfold maxLen; omega) (by simp) ?_
      intro A2 c2 w1 hown hg hloc
      rw [Nat.zero_add, List.nil_append] at hown
      rw [Nat.zero_add]
      obtain ⟨gA, ck, hform, hgA, hgA2⟩ := World.ownsRow.form hown (by omega)
      injection hform with hA _ hc2
      subst hA hc2
      have hB1 := (HB0.out.alloc (by simp; omega) (.cells #[] 45)).grown hg (by simp; omega) (fun g e => by simp [Value.ownBlock] at e; omega)
      have hX1 := (HX.out.alloc (.cells #[] 45)).grown hg (by simp [Value.ownBlock]; omega)
      have hP1 := (HP.out.alloc (.cells #[] 45)).grown hg (by simp [Value.ownBlock])
      have x0 : w1.cell? ⟨w.heap.size, 0, none⟩ = some (.int .i64 n) := hX1.cell 0
      have x1 : w1.cell? ⟨w.heap.size, 1, none⟩ = some (.slice (some ⟨bq, off, none⟩) bs.length cap) := hX1.cell 1
      have p0 : w1.cell? ⟨w.heap.size + 1, 0, none⟩ = some (.slice (some ⟨bc, oc, none⟩) bs.length cc) := hP1.cell 0
      have d4 := (hB1.cell (p := ⟨bc, oc + b, none⟩) hbc).trans HCE.out
      have hoc := hown.cellAt (j * 2 + 1) (by omega)
      rw [Off.all_snd l j o HO.out] at hoc
      have hof1 := hown.frozenAt (j * 2 + 1)
      have hst := (hown.stored (j * 2 + 1) (.int .i64 (o.c + more)))
      have hwr : IntKind.i64.wrap (o.c + more) = o.c + more := IntWalk.i64_in _ (by omega)
      have HST := Lib.hid hst.1
      have HB1 := Lib.hid hB1
      have HX1 := Lib.hid hX1
      have HP1 := Lib.hid hP1
      have HOW := Lib.hid hown
      clear hown hg hloc hst hB1 hX1 hP1 d1 d2 d3
      have x0' : (w1.setCell ⟨gA, j * 2 + 1, none⟩ (.int .i64 (o.c + more))).cell? ⟨w.heap.size, 0, none⟩ = some (.int .i64 n) := (HX1.out.far (p := ⟨gA, j * 2 + 1, none⟩) (by simp; omega) (.int .i64 (o.c + more))).cell 0
      have x1' : (w1.setCell ⟨gA, j * 2 + 1, none⟩ (.int .i64 (o.c + more))).cell? ⟨w.heap.size, 1, none⟩ = some (.slice (some ⟨bq, off, none⟩) bs.length cap) := (HX1.out.far (p := ⟨gA, j * 2 + 1, none⟩) (by simp; omega) (.int .i64 (o.c + more))).cell 1))
  have hoff : Offs (w1.setCell ⟨gA, j * 2 + 1, none⟩ (.int .i64 (o.c + more))) (fun _ => True) (.slice (some ⟨gA, 0, none⟩) l.length c2) (raiseL l j more) := by
    have h := HST.out
    rw [all_raise HO.out] at h
    refine ⟨by rw [raiseL_len]; exact (Sl.of_own h).mono fun _ _ _ => trivial, fun x hx => ?_⟩
    obtain ⟨i, hi⟩ := List.getElem?_of_mem hx
    rw [raiseL_get] at hi
    cases hl : l[i]? with
    | none => rw [hl] at hi; cases hi
    | some y =>
      rw [hl] at hi
      simp only [Option.map_some, Option.some.injEq] at hi
      have hy := HOL.out.2 y (List.mem_of_getElem? hl)
      split at hi
      · rename_i hij
        subst hij
        rw [HO.out] at hl
        have hl' := Option.some.inj hl
        subst hl'
        subst hi
        exact ⟨hy.1, by show -9223372036854775808 ≤ o.c + more; omega, by show o.c + more ≤ 9223372036854775807; omega⟩
      · subst hi
        exact hy
  have HOFF := Lib.hid hoff
  have HBS := Lib.hid (HB1.out.setCell (p := ⟨gA, j * 2 + 1, none⟩) (by simp; omega) (.int .i64 (o.c + more)))
  have hset := raise_set (more := more) (j := j) HLB.out
  have HSET := Lib.hid hset
  have hgc : (w1.setCell ⟨gA, j * 2 + 1, none⟩ (.int .i64 (o.c + more))).cell? ⟨gA, j * 2 + 1, none⟩ = some (.int .i64 (o.c + more)) := World.cell?_setCell_same' w1 ⟨gA, j * 2 + 1, none⟩ _ (by rw [hoc]; rfl)
  have HGC := Lib.hid hgc
  have hPs := HP1.out.far (p := ⟨gA, j * 2 + 1, none⟩) (by simp; omega) (.int .i64 (o.c + more))
  have HPs := Lib.hid hPs
  obtain ⟨u1, hu1⟩ : ∃ u, u = w1.setCell ⟨gA, j * 2 + 1, none⟩ (.int .i64 (o.c + more)) := ⟨_, rfl⟩
  rw [← hu1] at HOFF HBS HGC HPs ⊢
  clear hoff hset hgc x0 x1 p0 d4 hoc hof1 x0' x1' hPs hu1
  have hwin := withE_in (l := raiseL l j more) HI.out hb
  by_cases hce : checkE n (raiseL l j more) = 0
  · have hwz : withE n bs (b : Int) (raiseL l j more) = 0 := hwin.trans hce
    have hi' : instE n (raiseB bs b j more) = 0 := by rw [← HSET.out]; exact instE_set HI.out (by rw [raiseL_len]; exact hl8) hce
    obtain ⟨hr1, hr2, hr3⟩ := raise_costs (by omega) HI.out hi' HCB.out HLB.out HO.out
    have HR1 := Lib.hid hr1
    have HR2 := Lib.hid hr2
    have HR3 := Lib.hid hr3
    have HWZ := Lib.hid hwz
    have HI' := Lib.hid hi'
    have hlen2 : (raiseB bs b j more).length = bs.length := by simp [raiseB]
    have HLEN := Lib.hid hlen2
    clear hwin hce hwz hi' hr1 hr2 hr3 hlen2
    refine (with_ok n bs (b : Int) (raiseL l j more) _ _ R _ _ (HB.out.grow HBS.out) HOFF.out HWZ.out).mono ?_
    rintro e w2 ⟨A3, k3, rfl, hob, hb2⟩
    rw [Int.toNat_natCast, HSET.out] at hob
    have HOB := Lib.hid hob
    have HB2 := Lib.hid (HBS.out.trans (hb2.mono HBS.out.size))
    have HP2 := Lib.hid (HPs.out.grow hb2)
    clear hob hb2
    go_wp2_with (go_at_call 18; refine (num_any 0 (by decide) (by decide) _).mono ?_; rintro e w9 ⟨rfl, rfl⟩)
    have hcost := costs_ok n (raiseB bs b j more) (.slice A3 bs.length k3) _ (w2.alloc (.cells #[.int .i64 n, .slice A3 bs.length k3] 24)) (HOB.out.buys.alloc _) HI'.out
    refine hcost.mono ?_
    rw [HLEN.out]
    rintro e w3 ⟨CQ, cq, PQ, pq, rfl, hoc3, hop3, hb3⟩
    have hP3 := (HP2.out.alloc (.cells #[.int .i64 n, .slice A3 bs.length k3] 24)).grow hb3
    have hW0 := W_nonneg bs (allOf n)
    have hW1 : W bs (allOf n) ≤ 35184372088832 := by simpa using (okb_of (buys_wf HB.out) HI.out).1.W_le 0 (allOf n)
    have hwrp : IntKind.i64.wrap (W bs (allOf n) + more) = W bs (allOf n) + more := IntWalk.i64_in _ (by omega)
    have hBU := (HB2.out.alloc HB2.out.size (.cells #[.int .i64 n, .slice A3 bs.length k3] 24)).trans (hb3.mono (B' := w.heap.size) (by have := HB2.out.size; simp; omega))
    obtain ⟨b1, o1, y1, rfl, _, hy1, hcy1⟩ := (Sl.of_own hoc3).int_at hb
    rw [HR2.out] at hy1
    have hy1' := (Option.some.inj hy1).symm
    subst hy1'
    obtain ⟨b2, o2, y2, rfl, _, hy2, hcy2⟩ := (Sl.of_own hop3).int_at hb
    obtain ⟨b3, o3, y3, rfl, _, hy3, hcy3⟩ := (HPV.out.grow hBU).int_at hb
    rw [HR3.out, hy3] at hy2
    have hy2' := (Option.some.inj hy2).symm
    subst hy2'
    have s1 := cellAlloc hcy1 (.cells #[.slice (some ⟨b1, o1, none⟩) bs.length cq, .int .i64 (W (raiseB bs b j more) (allOf n)), .slice (some ⟨b2, o2, none⟩) bs.length pq] 36)
    have s2 := cellAlloc hcy2 (.cells #[.slice (some ⟨b1, o1, none⟩) bs.length cq, .int .i64 (W (raiseB bs b j more) (allOf n)), .slice (some ⟨b2, o2, none⟩) bs.length pq] 36)
    have s3 := cellAlloc hcy3 (.cells #[.slice (some ⟨b1, o1, none⟩) bs.length cq, .int .i64 (W (raiseB bs b j more) (allOf n)), .slice (some ⟨b2, o2, none⟩) bs.length pq] 36)
    rw [HR1.out] at s1 s2 s3 ⊢
    have hP4 := hP3.alloc (.cells #[.slice (some ⟨b1, o1, none⟩) bs.length cq, .int .i64 (W bs (allOf n) + more), .slice (some ⟨b2, o2, none⟩) bs.length pq] 36)
    have p1 := hP4.cell 1
    have p2 := hP4.cell 2
    have hBF := hBU.alloc hBU.size (.cells #[.slice (some ⟨b1, o1, none⟩) bs.length cq, .int .i64 (W bs (allOf n) + more), .slice (some ⟨b2, o2, none⟩) bs.length pq] 36)
    have HBF := Lib.hid hBF
    simp at p1 p2
    clear hP3 hP4 hBU hBF hoc3 hop3 hb3 hy1 hy2 hy3 hcy1 hcy2 hcy3 hcost
    go_wp2_with fail
    go_quiet ((go_at_call 18; exact quiet_left (num_any 0 (by decide) (by decide) _)))
    go_wp2_with fail
    go_ret
    exact ⟨rfl, below_drewN HBF.out _⟩
  · have hgt : 1099511627776 < o.c + more := by
      rcases Int.lt_or_le 1099511627776 (o.c + more) with h | h
      · exact h
      · exact absurd (checkE_raise ((instE_zero HI.out).2.2.2.2 l (List.mem_of_getElem? HLB.out)) HO.out (by omega) h) hce
    have hwz : withE n bs (b : Int) (raiseL l j more) ≠ 0 := by rw [hwin]; exact hce
    have hwb := withE_bd n bs (b : Int) (raiseL l j more)
    obtain ⟨we, hwe⟩ : ∃ we, we = withE n bs (b : Int) (raiseL l j more) := ⟨_, rfl⟩
    have HWZ := Lib.hid hwz
    have HWE := Lib.hid hwe
    rw [← hwe] at hwb hwz
    have hwb' : (we != 0) = true := by simpa using hwz
    obtain ⟨hwb1, hwb2⟩ := hwb
    clear hwin hce hwz hwe
    refine (with_err n bs (b : Int) (raiseL l j more) _ _ R _ _ (HB.out.grow HBS.out) HOFF.out HWZ.out).mono ?_
    rintro e w2 ⟨rfl, hb2⟩
    rw [← HWE.out]
    have hgc2 := (hb2.cell (p := ⟨gA, j * 2 + 1, none⟩) (World.block_lt_of_cell? _ _ HGC.out)).trans HGC.out
    have hgc3 := cellAlloc hgc2 (.cells #[.int .i64 0, .slice none 0 0] 24)
    have HB2 := Lib.hid (HBS.out.trans (hb2.mono HBS.out.size))
    clear hb2
    go_wp2_with (go_at_call 18; refine (num_any _ (by omega) (by omega) _).mono ?_; rintro e w9 ⟨rfl, rfl⟩)
    go_ret
    exact ⟨by first | rfl | simp [hgt], HB2.out.alloc HB2.out.size _⟩
end Go.Proofs.Ytcigobiolbojhaa.Vb

/- Law 17's own: single. -/
namespace Go.Proofs.Ytcigobiolbojhaa.Vb
open Go.RowKit

theorem Offs.at_ {w : World} {R : Nat → Prop} {A : Option Addr} {n c k : Nat} {l : List Off} {o : Off} (h : Offs w R (.slice A n c) l) (hk : l[k]? = some o) :
    ∃ b off, A = some ⟨b, off, none⟩ ∧ b < w.heap.size ∧ w.cell? ⟨b, off + k * 2, none⟩ = some (.int .u32 o.g) ∧ w.cell? ⟨b, off + k * 2 + 1, none⟩ = some (.int .i64 o.c) := by
  obtain ⟨⟨_, A', c', hv, _, _, hcs⟩, _⟩ := h
  injection hv with hA _ _
  subst hA
  have hlt := (List.getElem?_eq_some_iff.1 hk).1
  obtain ⟨b, off, hA, _, hlt2, hcc⟩ := hcs (by omega)
  exact ⟨b, off, hA, hlt2, hcc _ _ (Off.all_fst l k o hk), hcc _ _ (Off.all_snd l k o hk)⟩
theorem et_sec : ElemT Try.prog 116 148 2 16 := elemT_of Try.underlying116 (by omega) (z := .agg #[.int .i64 0, .int .i64 0]) (by kernel_rfl) rfl

theorem one_of {bs : List (List Off)} (hw : ∀ l ∈ bs, ∀ o ∈ l, o.wf) (hi : instE 1 bs = 0) (h : ∀ l ∈ bs, l.length ≤ 1) : One bs := fun l hl => by
  obtain ⟨hok, hg⟩ := okb_of hw hi
  refine ⟨h l hl, fun o ho => ?_⟩
  obtain ⟨h1, _, h3, h4⟩ := (hok.2 l hl).2 o ho
  have : o.g ≤ 1 := by simpa using hg l hl o ho
  exact ⟨by omega, h3, h4⟩
theorem sell_single {bs : List (List Off)} (ho : One bs) (_ : bs.length ≤ 32) : sellE 0 (bidsTo bs bs.length) = 0 := by
  have hb : sellBad 0 (bidsTo bs bs.length) = false := by
    unfold sellBad
    simp only [Bool.or_eq_false_iff, Bool.not_eq_false', List.any_eq_false]
    refine ⟨by decide, fun s hs => ?_⟩
    obtain ⟨i, o, hi, hio, rfl⟩ := bidsTo_mem.1 hs
    have := ((ho [o] (List.mem_of_getElem? hio)).2 o (by simp)).2
    simp only [secBad, Bool.or_eq_true, decide_eq_true_eq, not_or, Bool.not_eq_true', Bool.not_eq_false]
    exact ⟨by omega, by rw [coinB_iff]; omega⟩
  unfold sellE
  rw [if_neg (by rw [hb]; decide), if_pos]
  have := bidsTo_sorted bs bs.length
  rw [List.Nodup, List.pairwise_map]
  exact this.imp fun h e => by omega
theorem secs_wf {bs : List (List Off)} (hw : ∀ l ∈ bs, ∀ o ∈ l, o.wf) (hlen : bs.length ≤ 32) (k : Nat) (hk : k ≤ bs.length) : ∀ s ∈ bidsTo bs k, s.wf := fun s hs => by
  obtain ⟨i, o, hi, hio, rfl⟩ := bidsTo_mem.1 hs
  have := hw [o] (List.mem_of_getElem? hio) o (by simp)
  exact ⟨⟨by simp only; omega, by simp only; omega⟩, this.2.1, this.2.2⟩

set_option maxRecDepth 100000 in
set_option maxHeartbeats 3200000 in
theorem single_any (n : Int) (bs : List (List Off)) (W0 : Int) (vx cv pv : Value) (R R1 R2 : Nat → Prop) (w : World) (hl : Buys w R vx bs) (hi : instE n bs = 0) (hc : Sl w R1 cv bs.length 1 (ints (bestC n bs))) (hp : Sl w R2 pv bs.length 1 (ints (paysC n bs))) :
    Calls Try.prog 35 #[.agg #[.int .i64 n, vx], .agg #[cv, .int .i64 W0, pv]] w fun e w' => e = .returned (.bool true) ∧ Below w.heap.size w w' := by
  have HB := Lib.hid hl
  have HCV := Lib.hid hc
  have HPV := Lib.hid hp
  obtain ⟨vs, ⟨_, A, cap, rfl, hncap, hcap, hcells⟩, hvs⟩ := id hl
  obtain ⟨_, CA, cc, rfl, _⟩ := id hc
  obtain ⟨_, PA, pc, rfl, _⟩ := id hp
  have hlen := (instE_zero hi).2.2.1
  by_cases hn : n = 1
  · subst hn
    have HWF := Lib.hid (buys_wf hl)
    have HI := Lib.hid hi
    have HC := Lib.hid hcells
    have HV := Lib.hid hvs
    clear hl hc hp hcells hvs hi hcap
    go_enter Try.func35, Try.ntmps35
    go_wp2_with fail
    obtain ⟨U0, hU0⟩ : ∃ U, U = (w.alloc (.cells #[.int .i64 1, .slice A bs.length cap] 24)).alloc (.cells #[.slice CA bs.length cc, .int .i64 W0, .slice PA bs.length pc] 36) := ⟨_, rfl⟩
    have hX : Blk U0 w.heap.size 24 #[.int .i64 1, .slice A bs.length cap] := by rw [hU0]; exact (Blk.new w _ _).alloc _
    have hP : Blk U0 (w.heap.size + 1) 36 #[.slice CA bs.length cc, .int .i64 W0, .slice PA bs.length pc] := by rw [hU0]; exact Blk.new' _ _ (by simp)
    have hB : Below w.heap.size w U0 := by rw [hU0]; exact ((Below.refl _ _).alloc (Nat.le_refl _) _).alloc (by simp) _
    have hs0 : w.heap.size + 2 ≤ U0.heap.size := by rw [hU0]; simp
    rw [← hU0]
    have HX := Lib.hid hX
    have HP := Lib.hid hP
    have HBU := Lib.hid hB
    clear hU0 hX hP hB
    go_loopw [5, 6] (fun b i wr => ∃ (k : Nat) (A' : Option Addr) (c' : Nat), k ≤ bs.length ∧ i = .int .i64 k ∧ b = .slice A' (bidsTo bs k).length c' ∧ wr.ownsRow (w.heap.size + 2) 148 2 (.slice A' (bidsTo bs k).length c') (bidsTo bs k).length (Sec.all (bidsTo bs k)) ∧
      Below (w.heap.size + 2) U0 wr ∧ ∀ j l, j < k → bs[j]? = some l → l.length ≤ 1) (fun _ i _ => bs.length - (intOf i).toNat)
    case atStart => exact ⟨0, none, 0, Nat.zero_le _, rfl, rfl, World.ownsRow_nil _ _ _ _, Below.refl _ _, fun j l hj => by omega⟩
    case round =>
      obtain ⟨k, A', c', hk, rfl, rfl, how, hb, hno⟩ := hrel
      have HOW := Lib.hid how
      have HB2 := Lib.hid hb
      have HNO := Lib.hid hno
      have hbw := HBU.out.trans (hb.mono (B' := w.heap.size) (by omega))
      have HBW := Lib.hid hbw
      have hXr := HX.out.below hb (by omega)
      have hPr := HP.out.below hb (by omega)
      have x0 : wr.cell? ⟨w.heap.size, 0, none⟩ = some (.int .i64 1) := hXr.cell 0
      have x1 : wr.cell? ⟨w.heap.size, 1, none⟩ = some (.slice A bs.length cap) := hXr.cell 1
      have HXr := Lib.hid hXr
      have HPr := Lib.hid hPr
      have hbl := bidsTo_len bs k
      have hszr : w.heap.size + 2 ≤ wr.heap.size := Nat.le_trans hs0 hb.size
      clear how hb hno hbw hXr hPr
      by_cases hlt : k < bs.length
      · obtain ⟨bq, off, rfl, _, hbq, hcs⟩ := HC.out (by omega)
        obtain ⟨l, ho⟩ : ∃ l, bs[k]? = some l := ⟨_, List.getElem?_eq_getElem hlt⟩
        obtain ⟨u, hu, hol⟩ := HV.out k l ho
        have c0 := (HBW.out.cell (p := ⟨bq, off + k, none⟩) hbq).trans (hcs _ _ hu)
        have hol' := hol.grow HBW.out
        obtain ⟨⟨_, A1, cap1, rfl, _⟩, _⟩ := id hol'
        have HO := Lib.hid ho
        have HOL := Lib.hid hol'
        have e1 : (0 : Int) ≤ (k : Int) := by omega
        have e2 : (k : Int) < (bs.length : Int) := by omega
        clear hcs hu hol hol' ho
        by_cases hl1 : 1 < l.length
        · go_wp2_with fail
          go_ret
          exact ⟨rfl, HBW.out⟩
        · by_cases hl0 : l.length = 1
          · obtain ⟨o, hlo⟩ : ∃ o, l = [o] := by
              rcases one_list (show l.length ≤ 1 by omega) with h | h
              · rw [h] at hl0; simp at hl0
              · exact h
            subst hlo
            obtain ⟨bo, oo, rfl, hbo, hc0, hc1⟩ := HOL.out.at_ (k := 0) (o := o) rfl
            have hsu : bidsTo bs (k + 1) = bidsTo bs k ++ [⟨k, o.c⟩] := by simp only [bidsTo]; rw [HO.out]
            have HSU := Lib.hid hsu
            rw [show oo + 0 * 2 + 1 = oo + 1 by omega] at hc1
            clear hsu hc0 hl0 hl1
            go_wp2_with (at_builtin; refine wpList_app _ rfl (.tmp 35) (.tmp 46) et_sec rfl (w.heap.size + 2) (.slice A' (bidsTo bs k).length c') (bidsTo bs k).length (Sec.all (bidsTo bs k)) rfl (own_alloc HOW.out _) (fun _ => True) (.slice (some ⟨wr.heap.size, 0, none⟩) 1 1) 1 [.int .i64 (k : Int), .int .i64 o.c] rfl (Sl.any (Sl.new wr #[.int .i64 (k : Int), .int .i64 o.c] _ 1 2 (by unfold maxLen; omega) rfl)) (by simp [Value.oneCell']) (by omega) (by unfold maxLen; omega) (by simp; omega) ?_; intro A2 c2 w1 hown hg hloc; have HG := Lib.hid hg; have HN := Lib.hid hown; clear hown hg hloc)
            go_roundw
            case rel =>
              have hN := HN.out
              rw [Sec.all_app (bidsTo bs k) ⟨(k : Int), o.c⟩] at hN
              refine ⟨k + 1, A2, c2, by omega, by go_num, by rw [HSU.out]; simp, ?_, ?_, fun j l' hj hl' => ?_⟩
              · rw [HSU.out]
                simpa using hN
              · exact (HB2.out.alloc (by omega) _).grown HG.out (by simp; omega) (fun g e => (HOW.out.lt _ e).1)
              · by_cases hjk : j < k
                · exact HNO.out j l' hjk hl'
                · obtain rfl : j = k := by omega
                  rw [HO.out] at hl'
                  cases hl'
                  simp
            case measure => simp [intOf]; omega
          · have hlz : l.length = 0 := by omega
            have hlnil : l = [] := List.eq_nil_of_length_eq_zero hlz
            subst hlnil
            have hsu : bidsTo bs (k + 1) = bidsTo bs k := by simp only [bidsTo]; rw [HO.out]
            have HSU := Lib.hid hsu
            clear hsu hl0 hl1 hlz
            go_wp2_with fail
            go_roundw
            case rel =>
              refine ⟨k + 1, A', c', by omega, by go_num, by rw [HSU.out], by rw [HSU.out]; exact HOW.out, HB2.out, fun j l' hj hl' => ?_⟩
              by_cases hjk : j < k
              · exact HNO.out j l' hjk hl'
              · obtain rfl : j = k := by omega
                rw [HO.out] at hl'
                cases hl'
                simp
            case measure => simp [intOf]; omega
      · obtain rfl : k = bs.length := by omega
        have hone : One bs := one_of HWF.out HI.out fun l hl => by
          obtain ⟨j, hj, rfl⟩ := List.getElem_of_mem hl
          exact HNO.out j _ hj (List.getElem?_eq_getElem hj)
        have hse := sell_single hone hlen
        have hsp := single_plain hone HI.out
        have hsv : sellV 0 (bidsTo bs bs.length) = soldVal 0 (bidsTo bs bs.length) := by unfold sellV; rw [hse, if_pos rfl]
        have hsecs : Secs wr (fun _ => True) (.slice A' (bidsTo bs bs.length).length c') (bidsTo bs bs.length) := ⟨(Sl.of_own HOW.out).any, secs_wf HWF.out hlen _ (Nat.le_refl _)⟩
        have HSE := Lib.hid hse
        have HSP := Lib.hid hsp
        have HSV := Lib.hid hsv
        have HSC := Lib.hid hsecs
        obtain ⟨vb, vw, vc, vp, hform⟩ := soldVal_form 0 (bidsTo bs bs.length)
        have HF := Lib.hid hform
        clear hse hsp hsv hsecs hone hform x0
        go_wp2_with (first
          | (go_at_call 91; refine (sell_any 0 _ _ _ _ HSC.out).mono ?_; rintro e w2 ⟨rfl, hb2⟩; rw [HSE.out, HSV.out, HF.out]; have hX := HXr.out.grow hb2; have hP := HPr.out.grow hb2; have x1 : w2.cell? ⟨w.heap.size, 1, none⟩ = some (.slice A bs.length cap) := hX.cell 1; have HX2 := Lib.hid hX; have HP2 := Lib.hid hP; have HB3 := Lib.hid (HBW.out.trans (hb2.mono HBW.out.size)); clear hb2 hX hP)
          | (go_at_call 18; refine (num_any 0 (by decide) (by decide) _).mono ?_; rintro e w9 ⟨rfl, rfl⟩))
        have hag : ∀ (i : Nat) (x : Int), (bestC 1 bs)[i]? = some x → ((vb = true ∧ vw = (i : Int)) ↔ 0 ≤ x) ∧ (0 ≤ x → payAt 1 bs i x = vp) := by
          intro i x hx
          have h1 := HSP.out i x hx
          have h2 := HF.out
          unfold soldVal at h2
          cases hbk : bestK 0 (-1) (bidsTo bs bs.length) (bidsTo bs bs.length).length with
          | none =>
            rw [hbk] at h1 h2
            simp only [Value.agg.injEq, Array.mk.injEq, List.cons.injEq, Value.bool.injEq, Value.int.injEq, true_and, and_true] at h2
            obtain ⟨rfl, _⟩ := h2
            simp only at h1
            exact ⟨⟨fun h => by simp at h, fun h => by omega⟩, fun h => by omega⟩
          | some p =>
            obtain ⟨j, c⟩ := p
            rw [hbk] at h1 h2
            simp only [Value.agg.injEq, Array.mk.injEq, List.cons.injEq, Value.bool.injEq, Value.int.injEq, true_and, and_true] at h2
            obtain ⟨rfl, rfl, _, rfl⟩ := h2
            simp only at h1
            exact ⟨⟨fun h => h1.1.2 h.2, fun h => ⟨rfl, h1.1.1 h⟩⟩, h1.2⟩
        have hS := Blk.new w2 150 #[.bool vb, .int .i64 vw, .int .i64 vc, .int .i64 vp]
        have hX := HX2.out.alloc (.cells #[.bool vb, .int .i64 vw, .int .i64 vc, .int .i64 vp] 150)
        have hP := HP2.out.alloc (.cells #[.bool vb, .int .i64 vw, .int .i64 vc, .int .i64 vp] 150)
        have hB4 := HB3.out.alloc HB3.out.size (.cells #[.bool vb, .int .i64 vw, .int .i64 vc, .int .i64 vp] 150)
        obtain ⟨U4, hU4⟩ : ∃ U, U = w2.alloc (.cells #[.bool vb, .int .i64 vw, .int .i64 vc, .int .i64 vp] 150) := ⟨_, rfl⟩
        rw [← hU4] at hS hX hP hB4 ⊢
        have HS4 := Lib.hid hS
        have HX4 := Lib.hid hX
        have HP4 := Lib.hid hP
        have HB4 := Lib.hid hB4
        have HAG := Lib.hid hag
        clear hS hX hP hB4 hU4 hag x1 hlt
        go_loopw [9] (fun i wr => ∃ k : Nat, k ≤ bs.length ∧ i = .int .i64 k ∧ Below U4.heap.size U4 wr) (fun i _ => bs.length - (intOf i).toNat)
        case atStart => exact ⟨0, Nat.zero_le _, rfl, Below.refl _ _⟩
        case round =>
          obtain ⟨k, hk, rfl, hb⟩ := hrel
          have HBB := Lib.hid hb
          have hX := HX4.out.grow hb
          have hP := HP4.out.grow hb
          have hS := HS4.out.grow hb
          have x1 : wr.cell? ⟨w.heap.size, 1, none⟩ = some (.slice A bs.length cap) := hX.cell 1
          by_cases hlt : k < bs.length
          · have hbw := HB4.out.trans (hb.mono (B' := w.heap.size) HB4.out.size)
            obtain ⟨b1, o1, c, rfl, _, hcc, hc1⟩ := (HCV.out.grow hbw).int_at hlt
            obtain ⟨b2, o2, y, rfl, _, hyy, hc2⟩ := (HPV.out.grow hbw).int_at hlt
            have hyp : y = payAt 1 bs k c := by rw [paysC_get hcc] at hyy; exact (Option.some.inj hyy).symm
            obtain ⟨ha1, ha2⟩ := HAG.out k c hcc
            have p0 : wr.cell? ⟨w.heap.size + 1, 0, none⟩ = some (.slice (some ⟨b1, o1, none⟩) bs.length cc) := hP.cell 0
            have p2 : wr.cell? ⟨w.heap.size + 1, 2, none⟩ = some (.slice (some ⟨b2, o2, none⟩) bs.length pc) := hP.cell 2
            have s0 : wr.cell? ⟨w2.heap.size, 0, none⟩ = some (.bool vb) := hS.cell 0
            have s1 : wr.cell? ⟨w2.heap.size, 1, none⟩ = some (.int .i64 vw) := hS.cell 1
            have s3 : wr.cell? ⟨w2.heap.size, 3, none⟩ = some (.int .i64 vp) := hS.cell 3
            have e1 : (0 : Int) ≤ (k : Int) := by omega
            have e2 : (k : Int) < (bs.length : Int) := by omega
            cases vb with
            | false =>
              have hneg : decide (0 ≤ c) = false := by
                have : ¬ 0 ≤ c := fun h => by have := ha1.2 h; simp at this
                simpa using this
              clear hb hX hP hS hbw hcc hyy hyp ha1 ha2
              go_wp2_with fail
              go_quiet (fail)
              go_wp2_with fail
              go_roundw
              case rel => exact ⟨k + 1, by omega, by go_num, below_drewN HBB.out _⟩
              case measure => simp [intOf]; omega
            | true =>
              by_cases hvw : vw = (k : Int)
              · have hc0 : 0 ≤ c := ha1.1 ⟨rfl, hvw⟩
                have hyv : y = vp := hyp.trans (ha2 hc0)
                subst hyv
                subst hvw
                have hpos : decide (0 ≤ c) = true := by simpa using hc0
                clear hb hX hP hS hbw hcc hyy hyp ha1 ha2 hc0
                go_wp2_with fail
                go_quiet (fail)
                go_wp2_with fail
                go_roundw
                case rel => exact ⟨k + 1, by omega, by go_num, below_drewN HBB.out _⟩
                case measure => simp [intOf]; omega
              · have hneg : decide (0 ≤ c) = false := by
                  have : ¬ 0 ≤ c := fun h => hvw (ha1.2 h).2
                  simpa using this
                have hvw' : (vw == (k : Int)) = false := by simpa using hvw
                clear hb hX hP hS hbw hcc hyy hyp ha1 ha2 hvw
                go_wp2_with fail
                go_quiet (fail)
                go_wp2_with fail
                go_roundw
                case rel => exact ⟨k + 1, by omega, by go_num, below_drewN HBB.out _⟩
                case measure => simp [intOf]; omega
          · clear hb hX hP hS
            go_wp2_with fail
            go_ret
            exact ⟨rfl, HB4.out.trans (HBB.out.mono (B' := w.heap.size) HB4.out.size)⟩
  · have hne : (n != 1) = true := by simpa using hn
    have hB0 : Below w.heap.size w ((w.alloc (.cells #[.int .i64 n, .slice A bs.length cap] 24)).alloc (.cells #[.slice CA bs.length cc, .int .i64 W0, .slice PA bs.length pc] 36)) := ((Below.refl _ _).alloc (Nat.le_refl _) _).alloc (by simp) _
    have HB0 := Lib.hid hB0
    clear hl hc hp hcells hvs hi hn hB0 hcap
    go_enter Try.func35, Try.ntmps35
    go_wp2_with fail
    go_ret
    exact ⟨rfl, HB0.out⟩
end Go.Proofs.Ytcigobiolbojhaa.Vb

/- offers.Lower. -/
namespace Go.Proofs.Ytcigobiolbojhaa.Vb
open Go.RowKit

def lowL (c : Int) (l : List Off) : List Off := (l.filter (fun o => decide (c < o.c))).map (fun o => ⟨o.g, o.c - c⟩)
theorem lowL_len (c : Int) (l : List Off) : (lowL c l).length ≤ l.length := by simp [lowL, List.length_filter_le]
theorem lowL_snoc (c : Int) (l : List Off) (o : Off) : lowL c (l ++ [o]) = lowL c l ++ (if c < o.c then [⟨o.g, o.c - c⟩] else []) := by
  by_cases h : c < o.c <;> simp [lowL, h]
theorem lowL_take {c : Int} {l : List Off} {k : Nat} {o : Off} (hk : l[k]? = some o) : lowL c (l.take (k + 1)) = lowL c (l.take k) ++ (if c < o.c then [⟨o.g, o.c - c⟩] else []) := by
  obtain ⟨hlt, rfl⟩ := List.getElem?_eq_some_iff.mp hk
  rw [List.take_succ_eq_append_getElem hlt, lowL_snoc]
theorem lowL_wf (c : Int) (hc : 0 ≤ c) (l : List Off) (h : ∀ o ∈ l, o.wf) : ∀ o ∈ lowL c l, o.wf := by
  intro o ho
  simp only [lowL, List.mem_map, List.mem_filter, decide_eq_true_eq] at ho
  obtain ⟨p, ⟨hp, hlt⟩, rfl⟩ := ho
  have := h p hp
  unfold Off.wf at *
  simp only
  omega
theorem Off.all_snoc (l : List Off) (o : Off) : Off.all l ++ [.int .u32 o.g, .int .i64 o.c] = Off.all (l ++ [o]) := by simp [Off.all, Off.cells]

set_option maxRecDepth 100000 in
set_option maxHeartbeats 1600000 in
theorem lower_any (c : Int) (hc0 : 0 ≤ c) (hc : c ≤ 9223372036854775807) (l : List Off) (v : Value) (R : Nat → Prop) (w : World) (hl : Offs w R v l) (hsm : l.length ≤ 64) :
    Calls Try.prog 107 #[.int .i64 c, v] w fun e w' => ∃ A' cap', e = .returned (.slice A' (lowL c l).length cap') ∧ w'.ownsRow w.heap.size 45 2 (.slice A' (lowL c l).length cap') (lowL c l).length (Off.all (lowL c l)) ∧ Below w.heap.size w w' := by
  have HL := Lib.hid hl
  obtain ⟨⟨_, A, cap, rfl, hncap, hcap, _⟩, hwf⟩ := hl
  unfold maxLen at hcap
  have HWF := Lib.hid hwf
  clear hwf
  have hc1 : ¬ c < 0 := by omega
  go_enter Try.func107, Try.ntmps107
  go_wp2
  go_loopw [5, 12] (fun s i wr => ∃ k : Nat, k ≤ l.length ∧ i = .int .i64 k ∧ (∃ A' cap', s = .slice A' (lowL c (l.take k)).length cap' ∧ wr.ownsRow w.heap.size 45 2 (.slice A' (lowL c (l.take k)).length cap') (lowL c (l.take k)).length (Off.all (lowL c (l.take k)))) ∧
      Below w.heap.size w wr) (fun _ i _ => l.length - (intOf i).toNat)
  case atStart => exact ⟨0, Nat.zero_le _, rfl, ⟨_, _, rfl, World.ownsRow_nil _ _ _ _⟩, Below.refl _ _⟩
  case round =>
    obtain ⟨k, hk, rfl, ⟨A', cap', rfl, hob⟩, hb⟩ := hrel
    by_cases hlt : k < l.length
    · obtain ⟨o, ho⟩ : ∃ o, l[k]? = some o := ⟨_, List.getElem?_eq_getElem hlt⟩
      obtain ⟨bq, off, rfl, hbq, q0, q1⟩ := (HL.out.grow hb).at_ ho
      have hwo := HWF.out o (List.mem_of_getElem? ho)
      unfold Off.wf at hwo
      have hlen := lowL_len c (l.take k)
      have hlen2 : (lowL c (l.take k)).length ≤ 64 := by simp at hlen; omega
      have HT := Lib.hid (lowL_take (c := c) ho)
      have HO := Lib.hid hob
      have HB := Lib.hid hb
      have hsz := hb.size
      clear hob hb hlen ho
      by_cases hgt : c < o.c
      · have HT2 := Lib.hid (show lowL c (l.take (k + 1)) = lowL c (l.take k) ++ [⟨o.g, o.c - c⟩] by rw [HT.out, if_pos hgt])
        obtain ⟨og, oc⟩ := o
        simp only at *
        go_wp2_with (first
          | (at_builtin; go_must (refine wpList_app _ rfl (.tmp 20) (.tmp 28) et_off rfl w.heap.size (.slice A' (lowL c (l.take k)).length cap') _ _ rfl ((own_alloc (own_alloc HO.out _) _)) (fun _ => True) (.slice (some ⟨wr.heap.size + 1, 0, none⟩) 1 1) 1 [.int .u32 og, .int .i64 (oc - c)] rfl (Sl.blk (sz := 2) (cs := #[.int .u32 og, .int .i64 (oc - c)]) (t := 45) (Blk.new' _ _ (by simp)) (Nat.le_refl 1) (by unfold maxLen; omega) rfl) (by simp [Value.oneCell']) (by omega) (by unfold maxLen; omega) (by simp; omega) ?_); intro A3 cap3 w3 hown3 hg3 hloc3; have HW3 := Lib.hid hown3; have HG3 := Lib.hid hg3; clear hown3 hg3 hloc3))
        go_roundw
        case rel =>
          have hlen3 : (lowL c (l.take (k + 1))).length = (lowL c (l.take k)).length + 1 := by rw [HT2.out]; simp
          refine ⟨k + 1, by omega, by go_num, ⟨A3, cap3, by rw [hlen3], ?_⟩, ?_⟩
          · rw [hlen3, HT2.out, ← Off.all_snoc]
            exact HW3.out
          · exact ((HB.out.alloc (by omega) _).alloc (by simp; omega) _).grown HG3.out (by simp; omega) (fun g e => (HO.out.lt g e).1)
        case measure => simp [intOf]; omega
      · have HT2 := Lib.hid (show lowL c (l.take (k + 1)) = lowL c (l.take k) by rw [HT.out, if_neg hgt, List.append_nil])
        go_wp2
        go_roundw
        case rel =>
          refine ⟨k + 1, by omega, by go_num, ⟨A', cap', by rw [HT2.out], ?_⟩, HB.out.alloc (by omega) _⟩
          rw [HT2.out]
          exact own_alloc HO.out _
        case measure => simp [intOf]; omega
    · obtain rfl : k = l.length := by omega
      rw [List.take_length] at *
      have HO := Lib.hid hob
      have HB := Lib.hid hb
      clear hob hb
      go_wp2
      go_ret
      exact ⟨_, _, rfl, HO.out, HB.out⟩
end Go.Proofs.Ytcigobiolbojhaa.Vb

/- The reference of layer 8: Lower. -/
namespace Go.Proofs.Ytcigobiolbojhaa.Vb
open Go.RowKit

set_option maxRecDepth 100000 in
set_option maxHeartbeats 1600000 in
theorem refLower08_any (c : Int) (hc0 : 0 ≤ c) (hc : c ≤ 9223372036854775807) (l : List Off) (v : Value) (R : Nat → Prop) (w : World) (hl : Offs w R v l) (hsm : l.length ≤ 64) (hpos : ∀ o ∈ l, 1 ≤ o.c) :
    Calls Try.prog 105 #[.int .i64 c, v] w fun e w' => ∃ A' cap', e = .returned (.slice A' (lowL c l).length cap') ∧ w'.ownsRow w.heap.size 45 2 (.slice A' (lowL c l).length cap') (lowL c l).length (Off.all (lowL c l)) ∧ Below w.heap.size w w' := by
  have HL := Lib.hid hl
  obtain ⟨⟨_, A, cap, rfl, hncap, hcap, _⟩, hwf⟩ := hl
  unfold maxLen at hcap
  have HWF := Lib.hid hwf
  have HPOS := Lib.hid hpos
  clear hwf hpos
  go_enter Try.func105, Try.ntmps105
  go_wp2
  go_loopw [5, 6] (fun s i wr => ∃ k : Nat, k ≤ l.length ∧ i = .int .i64 k ∧ (∃ A' cap', s = .slice A' (lowL c (l.take k)).length cap' ∧ wr.ownsRow w.heap.size 45 2 (.slice A' (lowL c (l.take k)).length cap') (lowL c (l.take k)).length (Off.all (lowL c (l.take k)))) ∧
      Below w.heap.size w wr) (fun _ i _ => l.length - (intOf i).toNat)
  case atStart => exact ⟨0, Nat.zero_le _, rfl, ⟨_, _, rfl, World.ownsRow_nil _ _ _ _⟩, Below.refl _ _⟩
  case round =>
    obtain ⟨k, hk, rfl, ⟨A', cap', rfl, hob⟩, hb⟩ := hrel
    by_cases hlt : k < l.length
    · obtain ⟨o, ho⟩ : ∃ o, l[k]? = some o := ⟨_, List.getElem?_eq_getElem hlt⟩
      obtain ⟨bq, off, rfl, hbq, q0, q1⟩ := (HL.out.grow hb).at_ ho
      have hwo := HWF.out o (List.mem_of_getElem? ho)
      have hpo := HPOS.out o (List.mem_of_getElem? ho)
      unfold Off.wf at hwo
      have hlen := lowL_len c (l.take k)
      have hlen2 : (lowL c (l.take k)).length ≤ 64 := by simp at hlen; omega
      have HT := Lib.hid (lowL_take (c := c) ho)
      have HO := Lib.hid hob
      have HB := Lib.hid hb
      have hsz := hb.size
      have hnl : ¬ o.c < 1 := by omega
      clear hob hb hlen ho
      obtain ⟨og, oc⟩ := o
      simp only at *
      by_cases hgt : c < oc
      · have HT2 := Lib.hid (show lowL c (l.take (k + 1)) = lowL c (l.take k) ++ [⟨og, oc - c⟩] by rw [HT.out, if_pos hgt])
        have hnle : ¬ oc ≤ c := by omega
        by_cases hcp : 0 < c
        · go_wp2_with (at_builtin; go_must (refine wpList_app _ rfl (.tmp 38) (.tmp 40) et_off rfl w.heap.size (.slice A' (lowL c (l.take k)).length cap') _ _ rfl ((own_alloc (own_alloc HO.out _) _)) (fun _ => True) (.slice (some ⟨wr.heap.size + 1, 0, none⟩) 1 1) 1 [.int .u32 og, .int .i64 (oc - c)] rfl (Sl.blk (sz := 2) (cs := #[.int .u32 og, .int .i64 (oc - c)]) (t := 45) (Blk.new' _ _ (by simp)) (Nat.le_refl 1) (by unfold maxLen; omega) rfl) (by simp [Value.oneCell']) (by omega) (by unfold maxLen; omega) (by simp; omega) ?_); intro A3 cap3 w3 hown3 hg3 hloc3; have HW3 := Lib.hid hown3; have HG3 := Lib.hid hg3; clear hown3 hg3 hloc3)
          go_roundw
          case rel =>
            have hlen3 : (lowL c (l.take (k + 1))).length = (lowL c (l.take k)).length + 1 := by rw [HT2.out]; simp
            refine ⟨k + 1, by omega, by go_num, ⟨A3, cap3, by rw [hlen3], ?_⟩, ?_⟩
            · rw [hlen3, HT2.out, ← Off.all_snoc]
              exact HW3.out
            · exact ((HB.out.alloc (by omega) _).alloc (by simp; omega) _).grown HG3.out (by simp; omega) (fun g e => (HO.out.lt g e).1)
          case measure => simp [intOf]; omega
        · obtain rfl : c = 0 := by omega
          go_wp2_with (at_builtin; go_must (refine wpList_app _ rfl (.tmp 38) (.tmp 40) et_off rfl w.heap.size (.slice A' (lowL 0 (l.take k)).length cap') _ _ rfl ((own_alloc (own_alloc HO.out _) _)) (fun _ => True) (.slice (some ⟨wr.heap.size + 1, 0, none⟩) 1 1) 1 [.int .u32 og, .int .i64 oc] rfl (Sl.blk (sz := 2) (cs := #[.int .u32 og, .int .i64 oc]) (t := 45) (Blk.new' _ _ (by simp)) (Nat.le_refl 1) (by unfold maxLen; omega) rfl) (by simp [Value.oneCell']) (by omega) (by unfold maxLen; omega) (by simp; omega) ?_); intro A3 cap3 w3 hown3 hg3 hloc3; have HW3 := Lib.hid hown3; have HG3 := Lib.hid hg3; clear hown3 hg3 hloc3)
          go_roundw
          case rel =>
            have hlen3 : (lowL 0 (l.take (k + 1))).length = (lowL 0 (l.take k)).length + 1 := by rw [HT2.out]; simp
            refine ⟨k + 1, by omega, by go_num, ⟨A3, cap3, by rw [hlen3], ?_⟩, ?_⟩
            · rw [hlen3, HT2.out, ← Off.all_snoc]
              simpa using HW3.out
            · exact ((HB.out.alloc (by omega) _).alloc (by simp; omega) _).grown HG3.out (by simp; omega) (fun g e => (HO.out.lt g e).1)
          case measure => simp [intOf]; omega
      · have HT2 := Lib.hid (show lowL c (l.take (k + 1)) = lowL c (l.take k) by rw [HT.out, if_neg hgt, List.append_nil])
        have hle : oc ≤ c := by omega
        have hcp : 0 < c := by omega
        go_wp2
        go_roundw
        case rel =>
          refine ⟨k + 1, by omega, by go_num, ⟨A', cap', by rw [HT2.out], ?_⟩, HB.out.alloc (by omega) _⟩
          rw [HT2.out]
          exact own_alloc HO.out _
        case measure => simp [intOf]; omega
    · obtain rfl : k = l.length := by omega
      rw [List.take_length] at *
      have HO := Lib.hid hob
      have HB := Lib.hid hb
      clear hob hb
      go_wp2
      go_ret
      exact ⟨_, _, rfl, HO.out, HB.out⟩
end Go.Proofs.Ytcigobiolbojhaa.Vb

/- Sets of goods as ints. -/
namespace Go.Proofs.Ytcigobiolbojhaa.Vb
open Go.RowKit

theorem ofInt_i64 (a : Nat) (ha : a < 9223372036854775808) : (BitVec.ofInt 64 (a : Int)).toNat = a := by
  simp [BitVec.toNat_ofInt]; omega
theorem i64_and_nat (a b : Nat) (ha : a < 9223372036854775808) (hb : b < 9223372036854775808) : bits .and .i64 (a : Int) (b : Int) = ((a &&& b : Nat) : Int) := by
  have hx : a &&& b ≤ a := Nat.and_le_left
  show IntKind.i64.wrap ((BitVec.ofInt 64 (a : Int) &&& BitVec.ofInt 64 (b : Int)).toNat : Int) = _
  rw [BitVec.toNat_and, ofInt_i64 a ha, ofInt_i64 b hb]
  exact IntWalk.i64_in _ (by omega)
theorem add_or (x : Nat) : ∀ y : Nat, x &&& y = 0 → x + y = x ||| y := by
  induction x using Nat.strongRecOn with
  | _ x ih =>
    intro y h
    rcases Nat.eq_zero_or_pos x with h0 | h0
    · subst h0; simp
    · have h1 := ih (x / 2) (by omega) (y / 2) (by rw [← Nat.and_div_two, h])
      rw [← Nat.or_div_two] at h1
      have h3 : (x ||| y) % 2 = 1 ↔ x % 2 = 1 ∨ y % 2 = 1 := Nat.or_mod_two_eq_one
      have h4 : (x &&& y) % 2 = 1 ↔ x % 2 = 1 ∧ y % 2 = 1 := Nat.and_mod_two_eq_one
      rw [h] at h4
      omega
theorem and_split (a f : Nat) (ha : a < 4294967296) (hf : f < 4294967296) : (a &&& f) + andNot a f = a := by
  unfold andNot
  have hb : ∀ i, 32 ≤ i → a.testBit i = false := fun i hi => Nat.testBit_lt_two_pow (Nat.lt_of_lt_of_le (show a < 2 ^ 32 from ha) (Nat.pow_le_pow_right (by decide) hi))
  have hn : ∀ i, i < 32 → (4294967295 - f).testBit i = !f.testBit i := fun i hi => by
    rw [show 4294967295 - f = 2 ^ 32 - (f + 1) from by omega, Nat.testBit_two_pow_sub_succ (by omega), decide_eq_true hi]; rfl
  rw [add_or]
  · apply Nat.eq_of_testBit_eq
    intro i
    simp only [Nat.testBit_or, Nat.testBit_and]
    rcases Nat.lt_or_ge i 32 with hi | hi
    · rw [hn i hi]; cases a.testBit i <;> cases f.testBit i <;> rfl
    · rw [hb i hi]; rfl
  · apply Nat.eq_of_testBit_eq
    intro i
    simp only [Nat.testBit_and, Nat.zero_testBit]
    rcases Nat.lt_or_ge i 32 with hi | hi
    · rw [hn i hi]; cases a.testBit i <;> cases f.testBit i <;> rfl
    · rw [hb i hi]; rfl
theorem sub_iff {a f : Nat} (ha : a < 4294967296) (hf : f < 4294967296) : a &&& f = a ↔ andNot a f = 0 := by
  have := and_split a f ha hf
  omega
theorem sub_andNot {a f : Nat} (ha : a < 4294967296) (hf : f < 4294967296) (h : a &&& f = a) : (f : Int) - (a : Int) = ((andNot f a : Nat) : Int) := by
  have h1 := and_split f a hf ha
  rw [Nat.and_comm, h] at h1
  omega
end Go.Proofs.Ytcigobiolbojhaa.Vb

/- The reference of layer 15: the table. -/
namespace Go.Proofs.Ytcigobiolbojhaa.Vb
open Go.RowKit

set_option maxHeartbeats 1600000 in
set_option maxRecDepth 100000 in
theorem table15_any (m S : Nat) (h0 : 1 ≤ m) (h1 : m ≤ 10) (hS : S = 2 ^ m) (bs : List (List Off)) (v : Value) (R : Nat → Prop) (w : World) (hl : Buys w R v bs) (hok : Okb bs) :
    Calls Try.prog 152 #[.agg #[.int .i64 m, v]] w fun e w' => ∃ gT hi F, e = .returned (.slice (some ⟨gT, 0, none⟩) (bs.length + 1) (bs.length + 1)) ∧
      TabAt w' gT hi S bs.length 0 F bs ∧ w.heap.size ≤ gT ∧ Below w.heap.size w w' := by
  obtain ⟨vs, ⟨hlen, A, cap, rfl, hncap, hcap, hcells⟩, hvs⟩ := id hl
  have hS1 : S ≤ 1024 := by rw [hS]; exact Nat.le_trans (Nat.pow_le_pow_right (by omega) h1) (by decide)
  have hS0 : 0 < S := by rw [hS]; exact Nat.two_pow_pos m
  have hN := hok.1
  have hmk1 : ∀ W : World, (Instr.makeSlice 161 (.int .i64 ((bs.length : Int) + 1)) (.int .i64 ((bs.length : Int) + 1))).run Try.prog W = .ok (.slice (some ⟨W.heap.size, 0, none⟩) (bs.length + 1) (bs.length + 1)) (W.alloc (.cells (madeCells #[.slice none 0 0] (bs.length + 1)) 34)) := fun W => by
    rw [show ((bs.length : Int) + 1) = ((bs.length + 1 : Nat) : Int) from by omega]
    exact run_make_row' (P := Try.prog) 161 34 (.slice none 0 0) 24 Try.underlying161 (by kernel_rfl) rfl .i64 .i64 (bs.length + 1) (by omega) (by omega) W
  have hmk2 : ∀ W : World, (Instr.makeSlice 34 (.int .i64 (S : Int)) (.int .i64 (S : Int))).run Try.prog W = .ok (.slice (some ⟨W.heap.size, 0, none⟩) S S) (W.alloc (.cells (madeCells #[.int .i64 0] S) 2)) := fun W =>
    run_make_row' (P := Try.prog) 34 2 (.int .i64 0) 8 Try.underlying34 (by kernel_rfl) rfl .i64 .i64 S (by omega) (by omega) W
  have HC := Lib.hid hcells
  have HV := Lib.hid hvs
  have HOK := Lib.hid hok
  have HS := Lib.hid hS
  clear hcells hvs hok hlen hcap hl
  go_enter Try.func152, Try.ntmps152
  go_wp2_with fail
  go_loop [3, 4] (fun s i => ∃ j : Nat, j ≤ m ∧ i = .int .i64 j ∧ s = .int .i64 ((2 ^ j : Nat) : Int)) (fun _ i => m - (intOf i).toNat)
  case atStart => exact ⟨0, Nat.zero_le _, rfl, rfl⟩
  case round =>
  obtain ⟨j, hj, rfl, rfl⟩ := hrel
  by_cases hlt : j < m
  · have hp2 : 2 ^ j ≤ 1024 := Nat.le_trans (Nat.pow_le_pow_right (by omega) (show j ≤ 10 by omega)) (by decide)
    have hp3 : 2 ^ (j + 1) = 2 * 2 ^ j := by rw [Nat.pow_succ, Nat.mul_comm]
    obtain ⟨q, hq⟩ : ∃ q, q = 2 ^ j := ⟨_, rfl⟩
    rw [← hq] at hp2 hp3
    have hmul : IntKind.i64.wrap (2 * (q : Int)) = ((2 * q : Nat) : Int) := IntWalk.i64_in _ (by omega)
    rw [← hq]
    clear hS hq
    go_wp2
    go_round
    case rel => exact ⟨j + 1, by omega, by go_num, by rw [hp3]; exact congrArg _ (by omega)⟩
    case measure => simp [intOf]; omega
  obtain rfl : m = j := by omega
  rw [← hS]
  clear hS
  go_wp2_with fail
  have hw0 : ∃ W0, W0 = (w.alloc (.cells #[.int .i64 m, .slice A bs.length cap] 24)).alloc (.cells (madeCells #[.slice none 0 0] (bs.length + 1)) 34) := ⟨_, rfl⟩
  obtain ⟨W0, hW0⟩ := hw0
  have hX : Blk W0 w.heap.size 24 #[.int .i64 m, .slice A bs.length cap] := by rw [hW0]; exact (Blk.new w _ _).alloc _
  have hT : W0.rowIs (w.heap.size + 1) 34 (bs.length + 1) (fun _ => .slice none 0 0) := by rw [hW0]; simpa using World.rowIs_made (w.alloc (.cells #[.int .i64 m, .slice A bs.length cap] 24)) (.slice none 0 0) (bs.length + 1) 34
  have hbw : Below w.heap.size w W0 := by rw [hW0]; exact ((Below.refl _ _).alloc (Nat.le_refl _) _).alloc (by simp) _
  have hsz : W0.heap.size = w.heap.size + 2 := by rw [hW0]; simp
  rw [← hW0]
  have x1 : W0.cell? ⟨w.heap.size, 1, none⟩ = some (.slice A bs.length cap) := hX.cell 1
  have x1' := cellAlloc x1
  have t1 := fun o : Obj => (hT.alloc o).cell (i := bs.length) (by omega)
  have t2 := fun o : Obj => (hT.alloc o).frozen bs.length
  have HX := Lib.hid hX
  have HT := Lib.hid hT
  have HBW := Lib.hid hbw
  clear hX hT hbw hW0
  go_region
  go_wp2_with fail
  go_loopw [6] (fun i wr => ∃ (k : Nat) (F : Nat → Value), k ≤ bs.length ∧ i = .int .i64 ((k : Int) - 1) ∧ TabAt wr (w.heap.size + 1) wr.heap.size S bs.length k F bs ∧ Blk wr w.heap.size 24 #[.int .i64 m, .slice A bs.length cap] ∧ Below w.heap.size w wr) (fun i _ => (intOf i + 1).toNat)
  case atStart =>
    refine ⟨bs.length, _, Nat.le_refl _, by go_num, ⟨(((HT.out.set bs.length _).alloc _)), fun k h1 h2 => ?_⟩, ?_, ?_⟩
    · obtain rfl : k = bs.length := by omega
      refine ⟨w.heap.size + 2, by omega, by simp; omega, by simp, ?_⟩
      have hr := World.rowIs_made (W0.setCell ⟨w.heap.size + 1, bs.length, none⟩ (.slice (some ⟨w.heap.size + 2, 0, none⟩) S S)) (.int .i64 0) S 2
      have hz : (W0.setCell ⟨w.heap.size + 1, bs.length, none⟩ (.slice (some ⟨w.heap.size + 2, 0, none⟩) S S)).heap.size = w.heap.size + 2 := by simpa using hsz
      rw [hz] at hr
      exact World.rowIs.congr (g := fun f => .int .i64 (W (bs.drop bs.length) f)) hr (fun i _ => by simp only [W_end])
    · exact ((HX.out.far (by simp) _).alloc _)
    · exact ((HBW.out.setCell (by simp) _).alloc (by simp; omega) _).drew
  case round =>
    obtain ⟨k1, F, hk1, rfl, hT, hX, hb⟩ := hrel
    obtain ⟨wo, rfl⟩ : ∃ wo : World, wo = wr := ⟨_, rfl⟩
    cases k1 with
    | zero =>
      go_wp2_with fail
      go_ret
      exact ⟨_, _, F, rfl, hT, by omega, hb⟩
    | succ k =>
      have hki : (((k + 1 : Nat) : Int) - 1) = (k : Int) := by omega
      rw [hki]
      obtain ⟨s, hs⟩ : ∃ s, s = wo.heap.size := ⟨_, rfl⟩
      have hsg : w.heap.size + 2 ≤ s := by have := hT.1.lt; omega
      have t1 := fun o : Obj => (hT.1.alloc o).cell (i := k) (by omega)
      have t2 := fun o : Obj => (hT.1.alloc o).frozen k
      obtain ⟨bq, off, rfl, _, hbb, hcs⟩ := HC.out (by omega)
      obtain ⟨l, ho⟩ : ∃ l, bs[k]? = some l := ⟨_, List.getElem?_eq_getElem (by omega)⟩
      obtain ⟨u, hu, hol⟩ := HV.out k l ho
      obtain ⟨⟨_, A1, cap1, rfl, hnc1, hcap1, hcs1⟩, hwf1⟩ := hol
      have cq := hcs _ _ hu
      have hll := HOK.out.len ho
      have hT2 : TabAt ((wo.alloc (.cells (madeCells #[.int .i64 0] S) 2)).setCell ⟨w.heap.size + 1, k, none⟩ (.slice (some ⟨wo.heap.size, 0, none⟩) S S)) (w.heap.size + 1) wo.heap.size S bs.length (k + 1) (fun j => if j = k then .slice (some ⟨wo.heap.size, 0, none⟩) S S else F j) bs := by
        refine ⟨(hT.1.alloc _).set k _, fun k' h1 h2 => ?_⟩
        obtain ⟨g, a, b, c, d⟩ := hT.2 k' h1 h2
        exact ⟨g, a, b, by simp only [if_neg (show k' ≠ k by omega)]; exact c, (d.alloc _).setOther (by simp; omega) _⟩
      have hR2 : ((wo.alloc (.cells (madeCells #[.int .i64 0] S) 2)).setCell ⟨w.heap.size + 1, k, none⟩ (.slice (some ⟨wo.heap.size, 0, none⟩) S S)).rowIs wo.heap.size 2 S (rowP bs k 0) := by
        have hr := World.rowIs_made wo (.int .i64 0) S 2
        exact World.rowIs.congr (g := rowP bs k 0) (hr.setOther (a := ⟨w.heap.size + 1, k, none⟩) (by simp; omega) _) (fun i _ => by simp [rowP])
      have hX2 : Blk ((wo.alloc (.cells (madeCells #[.int .i64 0] S) 2)).setCell ⟨w.heap.size + 1, k, none⟩ (.slice (some ⟨wo.heap.size, 0, none⟩) S S)) w.heap.size 24 #[.int .i64 m, .slice (some ⟨bq, off, none⟩) bs.length cap] := (hX.alloc _).far (by simp) _
      have hb2 : Below w.heap.size w ((wo.alloc (.cells (madeCells #[.int .i64 0] S) 2)).setCell ⟨w.heap.size + 1, k, none⟩ (.slice (some ⟨wo.heap.size, 0, none⟩) S S)) := (hb.alloc (by omega) _).setCell (by simp) _
      have hz2 : ((wo.alloc (.cells (madeCells #[.int .i64 0] S) 2)).setCell ⟨w.heap.size + 1, k, none⟩ (.slice (some ⟨wo.heap.size, 0, none⟩) S S)).heap.size = s + 1 := by simp [hs]
      obtain ⟨wA, hwA⟩ : ∃ wA, wA = ((wo.alloc (.cells (madeCells #[.int .i64 0] S) 2)).setCell ⟨w.heap.size + 1, k, none⟩ (.slice (some ⟨wo.heap.size, 0, none⟩) S S)) := ⟨_, rfl⟩
      have HT2 := Lib.hid hT2
      have HR2 := Lib.hid hR2
      have HX2 := Lib.hid hX2
      have HB2 := Lib.hid hb2
      have HZ2 := Lib.hid hz2
      have HO := Lib.hid ho
      have HC1 := Lib.hid hcs1
      have HWA := Lib.hid hwA
      have HHS := Lib.hid hs
      clear hT2 hR2 hX2 hb2 hz2 hT hX hb hcs hcs1 hwf1 ho hu hwA hs
      go_wp2_with fail
      rw [← HWA.out] at HT2 HR2 HX2 HB2 HZ2
      rw [← HWA.out, ← HHS.out]
      rw [← HHS.out] at HT2 HR2
      clear t1 t2
      go_loopw [7] (fun i wr => ∃ f : Nat, f ≤ S ∧ i = .int .i64 f ∧ Below s wA wr ∧ wr.rowIs s 2 S (rowP bs k f)) (fun i _ => S - (intOf i).toNat)
      case atStart => exact ⟨0, Nat.zero_le _, rfl, Below.refl _ _, HR2.out⟩
      case round =>
        obtain ⟨f, hf, rfl, hb2, hr2⟩ := hrel
        obtain ⟨wp, rfl⟩ : ∃ wp : World, wp = wr := ⟨_, rfl⟩
        have HBP := Lib.hid hb2
        have HRP := Lib.hid hr2
        by_cases hlf : f < S
        · have hTp := HT2.out.below hb2 (by omega)
          obtain ⟨g', hg', c0, cs⟩ := hTp.at (k := k + 1) (Nat.le_refl _) (by omega)
          have c1 := cs f hlf
          have hk1i : IntKind.i64.wrap ((k : Int) + 1) = (k : Int) + 1 := IntWalk.i64_in _ (by omega)
          have HTP := Lib.hid hTp
          clear hTp cs hb2 hr2
          go_wp2_with fail
          go_loopw [8, 9] (fun b i wr => ∃ j : Nat, j ≤ l.length ∧ i = .int .i64 j ∧ b = .int .i64 ((l.take j).foldl (stepO (W (bs.drop (k + 1))) f) (W (bs.drop (k + 1)) f)) ∧ Below (s + 1) wp wr) (fun _ i _ => l.length - (intOf i).toNat)
          case atStart => exact ⟨0, Nat.zero_le _, rfl, rfl, Below.refl _ _⟩
          case round =>
            obtain ⟨j, hj, rfl, rfl, hb3⟩ := hrel
            have hbA : Below w.heap.size w wp := HB2.out.trans (HBP.out.mono (by omega))
            have hbw3 : Below w.heap.size w wr := hbA.trans (hb3.mono (by omega))
            have hX3 : Blk wr w.heap.size 24 #[.int .i64 m, .slice (some ⟨bq, off, none⟩) bs.length cap] := (HX2.out.below HBP.out (by omega)).below hb3 (by omega)
            have x1 : wr.cell? ⟨w.heap.size, 1, none⟩ = some (.slice (some ⟨bq, off, none⟩) bs.length cap) := hX3.cell 1
            have q1 := (hbw3.cell hbb).trans cq
            have hTr := HTP.out.below (hb3.mono (by omega)) (by omega)
            have hrr := HRP.out.of_block (hb3.block s (by omega))
            have hsz3 : s + 1 ≤ wr.heap.size := by have := hrr.lt; omega
            have HB3 := Lib.hid hb3
            have HBW3 := Lib.hid hbw3
            by_cases hlj : j < l.length
            · obtain ⟨b1, off1, rfl, _, hb1, hcs1⟩ := HC1.out (by omega)
              obtain ⟨o, ho⟩ : ∃ o, l[j]? = some o := ⟨_, List.getElem?_eq_getElem hlj⟩
              have e0 := (hbw3.cell hb1).trans (hcs1 _ _ (Off.all_fst l j o ho))
              have e1 : wr.cell? ⟨b1, off1 + j * 2 + 1, none⟩ = some (.int .i64 o.c) := (hbw3.cell hb1).trans (hcs1 _ _ (Off.all_snd l j o ho))
              obtain ⟨ho1, ho2, ho3, ho4⟩ := HOK.out.offer HO.out ho
              have hB0 := W_nonneg (bs.drop (k + 1)) (andNot f o.g)
              have hB1 := HOK.out.W_le (k + 1) (andNot f o.g)
              have hsucc : (l.take (j + 1)).foldl (stepO (W (bs.drop (k + 1))) f) (W (bs.drop (k + 1)) f) = stepO (W (bs.drop (k + 1))) f ((l.take j).foldl (stepO (W (bs.drop (k + 1))) f) (W (bs.drop (k + 1)) f)) o := by
                rw [List.take_add_one, ho, List.foldl_append]
                rfl
              have hbits : bits .and .i64 (o.g : Int) (f : Int) = ((o.g &&& f : Nat) : Int) := i64_and_nat o.g f (by omega) (by omega)
              have hfo : andNot f o.g < S := Nat.lt_of_le_of_lt (andNot_le _ _) hlf
              obtain ⟨g2, hg2, p0, ps⟩ := hTr.at (k := k + 1) (Nat.le_refl _) (by omega)
              have p1 := ps _ hfo
              have p0' := cellAlloc p0
              have p1' := cellAlloc p1
              have hwrap : IntKind.i64.wrap (o.g : Int) = o.g := IntWalk.i64_in _ (by omega)
              have HSU := Lib.hid hsucc
              clear hcs1 hsucc hb3 hbw3 hX3 hTr hrr ho ps hbA c0 c1
              generalize hbest : (l.take j).foldl (stepO (W (bs.drop (k + 1))) f) (W (bs.drop (k + 1)) f) = best at *
              have HBE := Lib.hid hbest
              clear hbest
              by_cases hfit : andNot o.g f = 0
              · have hsf := (sub_iff (a := o.g) (f := f) (by omega) (by omega)).2 hfit
                have hfb : (((o.g &&& f : Nat) : Int) == (o.g : Int)) = true := by simp [hsf]
                have hsub : IntKind.i64.wrap ((f : Int) - (o.g : Int)) = ((andNot f o.g : Nat) : Int) := by rw [sub_andNot (by omega) (by omega) hsf]; exact IntWalk.i64_in _ (by omega)
                have HFI := Lib.hid hfit
                have hsum : IntKind.i64.wrap (o.c + W (bs.drop (k + 1)) (andNot f o.g)) = o.c + W (bs.drop (k + 1)) (andNot f o.g) := IntWalk.i64_in _ (by omega)
                clear hfit hsf
                go_wp2_with fail
                go_region
                go_wp2_with fail
                go_roundw
                case rel =>
                  refine ⟨j + 1, by omega, by go_num, ?_, (HB3.out.alloc (by omega) _).drew⟩
                  rw [HSU.out]
                  unfold stepO
                  rw [if_pos HFI.out]
                  congr 1
                  split <;> omega
                case measure => simp [intOf]; omega
              · have hfb : (((o.g &&& f : Nat) : Int) == (o.g : Int)) = false := by have := mt (sub_iff (a := o.g) (f := f) (by omega) (by omega)).1 hfit; simpa using (by omega : ¬ ((o.g &&& f : Nat) : Int) = (o.g : Int))
                have HFI := Lib.hid hfit
                clear hfit
                go_wp2_with fail
                go_roundw
                case rel =>
                  refine ⟨j + 1, by omega, by go_num, ?_, HB3.out.alloc (by omega) _⟩
                  rw [HSU.out]
                  unfold stepO
                  rw [if_neg HFI.out]
                case measure => simp [intOf]; omega
            · obtain rfl : j = l.length := by omega
              rw [List.take_length, ← W_drop HO.out f]
              have p0 := hTr.1.cell (i := k) (by omega)
              simp only [if_true] at p0
              have r0 := hrr.cell hlf
              have rf := hrr.frozen f
              have hw0 := W_nonneg (bs.drop k) f
              have hw1 := HOK.out.W_le k f
              have HRR := Lib.hid hrr
              clear hb3 hbw3 hX3 hTr hrr hbA c0 c1
              go_wp2_with fail
              go_roundw
              case rel =>
                refine ⟨f + 1, by omega, by go_num, (HBP.out.trans (HB3.out.mono (by omega))).setCell (by simp) _, (HRR.out.set f _).congr fun i hi => ?_⟩
                unfold rowP
                by_cases hif : i = f
                · subst hif
                  simp
                · simp only [if_neg hif]
                  by_cases hlt : i < f
                  · rw [if_pos hlt, if_pos (by omega)]
                  · rw [if_neg hlt, if_neg (by omega)]
              case measure => simp [intOf]; omega
        · obtain rfl : f = S := by omega
          go_wp2_with fail
          go_roundw
          case rel =>
            have hT3 := HT2.out.below hb2 (by omega)
            refine ⟨k, _, by omega, by go_num, ⟨hT3.1, fun k' h1 h2 => ?_⟩, HX2.out.below hb2 (by omega), HB2.out.trans (hb2.mono (by omega))⟩
            by_cases hkk : k' = k
            · subst hkk
              exact ⟨s, by omega, hr2.lt, by simp, hr2.congr fun i hi => by simp [rowP, hi]⟩
            · obtain ⟨g, a, b, c, d⟩ := hT3.2 k' (by omega) h2
              exact ⟨g, a, by have := d.lt; omega, c, d⟩
          case measure => simp [intOf]
end Go.Proofs.Ytcigobiolbojhaa.Vb

/- The reference of layer 15: what may be asked; a part. -/
namespace Go.Proofs.Ytcigobiolbojhaa.Vb
open Go.RowKit

theorem pow_u64 (m : Nat) (h : m ≤ 10) : IntKind.u64.wrap (2 ^ m) = ((2 ^ m : Nat) : Int) := by
  have hp2 : 2 ^ m ≤ 1024 := Nat.le_trans (Nat.pow_le_pow_right (by omega) h) (by decide)
  have h3 : ((2 : Int) ^ m) = ((2 ^ m : Nat) : Int) := by simp
  rw [h3]
  generalize 2 ^ m = s at *
  exact IntWalk.u64_in _ (by omega)

set_option maxHeartbeats 800000 in
theorem wrong15_any (m S : Nat) (h1 : m ≤ 10) (hS : S = 2 ^ m) (bs : List (List Off)) (v : Value) (R : Nat → Prop) (w : World) (hl : Buys w R v bs) (hi : instE (m : Int) bs = 0) :
    Calls Try.prog 151 #[.agg #[.int .i64 (m : Int), v], .int .i64 0, .int .u32 ((S - 1 : Nat) : Int)] w fun e w' => e = .returned (.int .i64 0) ∧ Below w.heap.size w w' := by
  obtain ⟨vs, ⟨_, A, cap, rfl, hnc, hcm, hcs⟩, hvs⟩ := id hl
  have hS1 : S ≤ 1024 := by rw [hS]; exact Nat.le_trans (Nat.pow_le_pow_right (by omega) h1) (by decide)
  have hS0 : 0 < S := by rw [hS]; exact Nat.two_pow_pos m
  have hsh : IntKind.u64.wrap (2 ^ m) = (S : Int) := by rw [hS]; exact pow_u64 m h1
  have hcv : IntKind.u64.wrap ((S - 1 : Nat) : Int) = ((S - 1 : Nat) : Int) := IntWalk.u64_in _ (by omega)
  have HB := Lib.hid hl
  have HI := Lib.hid hi
  clear hl hi hcs hvs hS
  go_enter Try.func151, Try.ntmps151
  go_wp2_with (go_at_call 30; refine (refInstance_any (m : Int) bs _ R _ (HB.out.alloc _)).mono ?_; rintro e w1 ⟨rfl, hb1⟩; rw [HI.out]; obtain ⟨hX, hs1, hbw⟩ := one_blk' hb1; have x0 : w1.cell? ⟨w.heap.size, 0, none⟩ = some (.int .i64 m) := hX.cell 0; have x1 : w1.cell? ⟨w.heap.size, 1, none⟩ = some (.slice A bs.length cap) := hX.cell 1; have HBW := Lib.hid hbw; clear hX hb1 hbw)
  go_ret
  exact ⟨rfl, HBW.out⟩

set_option maxHeartbeats 400000 in
theorem whole15_any (m S : Nat) (h0 : 1 ≤ m) (h1 : m ≤ 10) (hS : S = 2 ^ m) (v : Value) (w : World) (hv : ∃ A n c, v = .slice A n c) :
    Calls Try.prog 134 #[.agg #[.int .i64 (m : Int), v]] w fun e w' => e = .returned (.int .u32 ((S - 1 : Nat) : Int)) ∧ Below w.heap.size w w' := by
  obtain ⟨A, n, c, rfl⟩ := hv
  have hS1 : S ≤ 1024 := by rw [hS]; exact Nat.le_trans (Nat.pow_le_pow_right (by omega) h1) (by decide)
  have hS0 : 0 < S := by rw [hS]; exact Nat.two_pow_pos m
  have hsh : IntKind.u32.wrap (2 ^ m) = (S : Int) := by
    rw [show ((2 : Int) ^ m) = ((2 ^ m : Nat) : Int) from by simp, ← hS]
    exact IntWalk.u32_in _ (by omega)
  have hsub : IntKind.u32.wrap ((S : Int) - 1) = ((S - 1 : Nat) : Int) := by
    rw [show (S : Int) - 1 = ((S - 1 : Nat) : Int) from by omega]
    exact IntWalk.u32_in _ (by omega)
  clear hS
  go_enter Try.func134, Try.ntmps134
  go_wp2
  go_ret
  exact ⟨rfl, (Below.refl _ _).alloc (Nat.le_refl _) _⟩
end Go.Proofs.Ytcigobiolbojhaa.Vb

/- The reference of layer 15: Part. -/
namespace Go.Proofs.Ytcigobiolbojhaa.Vb
open Go.RowKit

set_option maxRecDepth 100000 in
set_option maxHeartbeats 3200000 in
theorem part15_any (m S : Nat) (hS : S = 2 ^ m) (bs : List (List Off)) (v : Value) (R : Nat → Prop) (w : World) (hl : Buys w R v bs) (hi : instE (m : Int) bs = 0) :
    Calls Try.prog 133 #[.agg #[.int .i64 (m : Int), v], .int .i64 0, .int .u32 ((S - 1 : Nat) : Int)] w fun e w' => ∃ A' cap', e = .returned (.tuple #[.agg #[.slice A' bs.length cap', .int .i64 (W bs (S - 1))], .int .i64 0]) ∧
      w'.ownsRow w.heap.size 3 1 (.slice A' bs.length cap') bs.length (ints (choose bs (S - 1))) ∧ Below w.heap.size w w' := by
  have hok := (okb_of hl.wf hi).1
  obtain ⟨hn1, hn2, hl32, _⟩ := instE_zero hi
  have hm0 : 1 ≤ m := by omega
  have hm1 : m ≤ 10 := by omega
  have hS1 : S ≤ 1024 := by rw [hS]; exact Nat.le_trans (Nat.pow_le_pow_right (by omega) hm1) (by decide)
  have hS0 : 0 < S := by rw [hS]; exact Nat.two_pow_pos m
  have hcv : IntKind.i64.wrap ((S - 1 : Nat) : Int) = ((S - 1 : Nat) : Int) := IntWalk.i64_in _ (by omega)
  obtain ⟨vs, ⟨_, A, cap, rfl, hnc, hcm, hcs⟩, hvs⟩ := id hl
  have HB := Lib.hid hl
  have HI := Lib.hid hi
  have HS := Lib.hid hS
  have HOK := Lib.hid hok
  have HCS := Lib.hid hcs
  have HVS := Lib.hid hvs
  clear hl hi hS hok hcs hvs hcm
  go_enter Try.func133, Try.ntmps133
  go_wp2_with fail
  refine (wrong15_any m S hm1 HS.out bs _ R _ ((HB.out.alloc _).alloc _) HI.out).mono ?_
  rintro e w0 ⟨rfl, hb0⟩
  obtain ⟨hX, hP, hs0, hbw⟩ := two_blk' hb0
  have x0 : w0.cell? ⟨w.heap.size, 0, none⟩ = some (.int .i64 m) := hX.cell 0
  have x1 : w0.cell? ⟨w.heap.size, 1, none⟩ = some (.slice A bs.length cap) := hX.cell 1
  have HX := Lib.hid hX
  have HP := Lib.hid hP
  have HBW0 := Lib.hid hbw
  clear hX hP hb0 hbw
  go_wp2_with fail
  refine (table15_any m S hm0 hm1 HS.out bs _ R _ (HB.out.grow HBW0.out) HOK.out).mono ?_
  rintro e w1 ⟨gT, hi, F, rfl, hT, hg, hb1⟩
  have HX1 := Lib.hid (HX.out.grow hb1)
  have HP1 := Lib.hid (HP.out.grow hb1)
  have HBW := Lib.hid (HBW0.out.trans (hb1.mono (by omega)))
  have HT := Lib.hid hT
  have hs1 := hb1.size
  obtain ⟨g0, _, c0, c1⟩ := hT.at (k := 0) (Nat.le_refl _) (Nat.zero_le _)
  have c2 := c1 (S - 1) (by omega)
  have hS2 : S - 1 < S := by omega
  have x1' : w1.cell? ⟨w.heap.size, 1, none⟩ = some (.slice A bs.length cap) := HX1.out.cell 1
  rw [List.drop_zero] at c2
  clear hb1 hT x0 x1 c1
  go_wp2_with fail
  obtain ⟨wc, hwc⟩ : ∃ V, V = w1.alloc (.cells #[.slice none 0 0, .int .i64 (W bs (S - 1))] 66) := ⟨_, rfl⟩
  have HC := Lib.hid (show Blk wc w1.heap.size 66 #[.slice none 0 0, .int .i64 (W bs (S - 1))] from by rw [hwc]; exact Blk.new w1 _ _)
  have HCB := Lib.hid (show Below w1.heap.size w1 wc from by rw [hwc]; exact (Below.refl _ _).alloc (Nat.le_refl _) _)
  have hsc : wc.heap.size = w1.heap.size + 1 := by rw [hwc]; simp
  rw [← hwc]
  clear hwc c0 c2 x1' hg
  go_loopw [11, 12] (fun fr i wr => ∃ (k fi : Nat) (cs : List Int) (A' : Option Addr) (cap' : Nat), k ≤ bs.length ∧ i = .int .i64 k ∧ fr = .int .i64 fi ∧ fi < S ∧ choose bs (S - 1) = cs ++ choose (bs.drop k) fi ∧
      Blk wr w1.heap.size 66 #[.slice A' k cap', .int .i64 (W bs (S - 1))] ∧ wr.ownsRow (w1.heap.size + 1) 3 1 (.slice A' k cap') k (ints cs) ∧ Below w1.heap.size w1 wr)
    (fun _ i _ => bs.length - (intOf i).toNat)
  case atStart => exact ⟨0, S - 1, [], none, 0, Nat.zero_le _, rfl, rfl, by omega, rfl, HC.out, World.ownsRow_nil _ _ _ _, HCB.out⟩
  case round =>
    obtain ⟨wo, rfl⟩ : ∃ wo : World, wo = wr := ⟨_, rfl⟩
    obtain ⟨k, fi, cs, A', cap', hk, rfl, rfl, hfi, hch, hcb, hown, hb⟩ := hrel
    have HOWN := Lib.hid hown
    have HCH := Lib.hid hch
    have HCBK := Lib.hid hcb
    have HBB := Lib.hid hb
    have hxo : Blk wo w.heap.size 24 #[.int .i64 m, .slice A bs.length cap] := HX1.out.below hb (by omega)
    have o1 : wo.cell? ⟨w.heap.size, 1, none⟩ = some (.slice A bs.length cap) := hxo.cell 1
    have hbo : Below w.heap.size w wo := HBW.out.trans (hb.mono (by omega))
    have hto := HT.out.grow hb
    have hlo := hb.size
    have hclt := hcb.lt
    by_cases hlt : k < bs.length
    · obtain ⟨bq, off, rfl, _, hbq, hcs⟩ := HCS.out (by omega)
      obtain ⟨l, hl⟩ : ∃ l, bs[k]? = some l := ⟨_, List.getElem?_eq_getElem hlt⟩
      obtain ⟨u, hu, hol⟩ := HVS.out k l hl
      have cl := hcs k u hu
      have HL := Lib.hid hl
      have hl8 : l.length ≤ 8 := HOK.out.len hl
      obtain ⟨⟨_, A1, cap1, rfl, hnc1, hcm1, hcs1⟩, _⟩ := hol
      unfold maxLen at hcm1
      have q0 := (hbo.cell hbq).trans cl
      have HC1 := Lib.hid hcs1
      have HCL := Lib.hid cl
      have HXO := Lib.hid hxo
      have HBO := Lib.hid hbo
      have HTO := Lib.hid hto
      have hk0 : (0 : Int) ≤ (k : Int) := by omega
      clear hcs hu hl hcs1 cl hxo hbo hto hb hown hch hcb
      go_wp2_with fail
      clear o1 q0
      go_loopw [13, 14] (fun nn i wr2 => ∃ (j : Nat) (z : Int), j ≤ l.length ∧ i = .int .i64 ((j : Int) - 1) ∧ nn = .int .i64 z ∧ ((z = -1 ∧ ∀ (i : Nat) (x : Off), j ≤ i → l[i]? = some x → pickB (W (bs.drop (k + 1))) fi (W (bs.drop k) fi) x = false) ∨
            ∃ (jj : Nat) (o : Off), z = jj ∧ l[jj]? = some o ∧ pickB (W (bs.drop (k + 1))) fi (W (bs.drop k) fi) o = true ∧ j ≤ jj ∧ ∀ (i : Nat) (x : Off), j ≤ i → i < jj → l[i]? = some x → pickB (W (bs.drop (k + 1))) fi (W (bs.drop k) fi) x = false) ∧
          Below wo.heap.size wo wr2)
        (fun _ i _ => (intOf i + 1).toNat)
      case atStart => exact ⟨l.length, -1, Nat.le_refl _, by go_num, rfl, .inl ⟨rfl, fun i x h hx => by have := (List.getElem?_eq_some_iff.1 hx).1; omega⟩, Below.refl _ _⟩
      case round =>
        obtain ⟨j1, z, hj, rfl, rfl, hnn, hb2⟩ := hrel
        have hx2 : Blk wr w.heap.size 24 #[.int .i64 m, .slice (some ⟨bq, off, none⟩) bs.length cap] := HXO.out.grow hb2
        have x1 : wr.cell? ⟨w.heap.size, 1, none⟩ = some (.slice (some ⟨bq, off, none⟩) bs.length cap) := hx2.cell 1
        have hbw2 : Below w.heap.size w wr := HBO.out.trans (hb2.mono (by omega))
        have q1 := (hbw2.cell hbq).trans HCL.out
        have ht2 := HTO.out.grow hb2
        have hl2 := hb2.size
        have HB2 := Lib.hid hb2
        cases j1 with
        | zero =>
          rcases hnn with ⟨rfl, hno⟩ | ⟨jj, o, rfl, ho, hpb, _, hno⟩
          · have hpn : pickN (W (bs.drop (k + 1))) fi (W (bs.drop k) fi) l = (-1, fi) := pickN_none fun i x hx hl => hno i x (Nat.zero_le _) hl
            have HPN := Lib.hid hpn
            have HOT := Lib.hid (own_grow HOWN.out hb2)
            have HCT := Lib.hid (HCBK.out.grow hb2)
            have d0 : wr.cell? ⟨w1.heap.size, 0, none⟩ = some (.slice A' k cap') := HCT.out.cell 0
            clear hno hb2 hpn hx2 hbw2 ht2
            go_wp2_with (at_builtin; refine wpList_app _ rfl (.tmp 103) (.tmp 105) et_int rfl (w1.heap.size + 1) (.slice A' k cap') k (ints cs) rfl (HOT.out.alloc _) _ _ 1 _ rfl (Sl.new wr #[.int .i64 (-1)] _ 1 1 (by unfold maxLen; omega) rfl) (by simp [Value.oneCell']) (by omega) (by unfold maxLen; omega) (by simp; omega) ?_; intro A3 cap3 w3 hown3 hg3 _; have h3c := (HCT.out.alloc (.cells #[.int .i64 (-1)] 3)).grown hg3 (fun e => by have := (HOT.out.lt _ e.symm).1; omega); have s0 : w3.cell? ⟨w1.heap.size, 0, none⟩ = some (.slice A' k cap') := h3c.cell 0; have s1 := h3c.frozen 0; have hb3 : Below w1.heap.size w1 (w3.setCell ⟨w1.heap.size, 0, none⟩ (.slice A3 (k + 1) cap3)) := (((HBB.out.trans (HB2.out.mono hlo)).alloc (by omega) _).grown hg3 (by simp; omega) (fun g e => by have := (HOT.out.lt g e).1; omega)).setCell (p := ⟨w1.heap.size, 0, none⟩) (by simp) _; have HC3 := Lib.hid h3c; have HO3 := Lib.hid hown3; have HB3 := Lib.hid hb3; clear h3c hown3 hg3 hb3)
            go_roundw
            case rel =>
              refine ⟨k + 1, fi, cs ++ [(-1)], A3, cap3, by omega, by go_num, rfl, hfi, ?_, HC3.out.set_ 0 (.slice A3 (k + 1) cap3), ?_, HB3.out⟩
              · rw [HCH.out, choose_drop HL.out fi, HPN.out]
                simp
              · have := own_lo HO3.out (grownBy_setCell w3 ⟨w1.heap.size, 0, none⟩ (.slice A3 (k + 1) cap3)) (fun g e => by simp at e; omega)
                simpa [ints] using this
            case measure => simp [intOf]; omega
          · have hpn := pickN_some ho hpb (fun i x hi hx => hno i x (Nat.zero_le _) hi hx)
            have hjl : jj < l.length := (List.getElem?_eq_some_iff.1 ho).1
            obtain ⟨b1, off1, rfl, _, hb1, hcs1⟩ := HC1.out (by omega)
            have o0 := (hbw2.cell hb1).trans (hcs1 _ _ (Off.all_fst l jj o ho))
            obtain ⟨ho1, ho2, ho3, ho4⟩ := HOK.out.offer HL.out ho
            have hwrap : IntKind.i64.wrap (o.g : Int) = o.g := IntWalk.i64_in _ (by omega)
            have hfo : andNot fi o.g < S := Nat.lt_of_le_of_lt (andNot_le _ _) hfi
            have hfit : andNot o.g fi = 0 := by
              simp [pickB] at hpb
              exact hpb.1
            have hsub : IntKind.i64.wrap ((fi : Int) - (o.g : Int)) = ((andNot fi o.g : Nat) : Int) := by rw [sub_andNot (by omega) (by omega) ((sub_iff (by omega) (by omega)).2 hfit)]; exact IntWalk.i64_in _ (by omega)
            have hjj : (0 : Int) ≤ (jj : Int) := by omega
            have HPN := Lib.hid hpn
            have HOT := Lib.hid (own_grow HOWN.out hb2)
            have HCT := Lib.hid (HCBK.out.grow hb2)
            have d0 : wr.cell? ⟨w1.heap.size, 0, none⟩ = some (.slice A' k cap') := HCT.out.cell 0
            have HXC1 := Lib.hid (show w1.cell? ⟨w.heap.size, 1, none⟩ = some (.slice (some ⟨bq, off, none⟩) bs.length cap) from HX1.out.cell 1)
            have HXC2 := Lib.hid ((HBW.out.cell hbq).trans HCL.out)
            have HXC3 := Lib.hid ((HBW.out.cell hb1).trans (hcs1 _ _ (Off.all_fst l jj o ho)))
            clear hno hb2 hpn hx2 hbw2 ht2 ho hpb hcs1 hfit
            go_wp2_with (at_builtin; refine wpList_app _ rfl (.tmp 103) (.tmp 105) et_int rfl (w1.heap.size + 1) (.slice A' k cap') k (ints cs) rfl (HOT.out.alloc _) _ _ 1 _ rfl (Sl.new wr #[.int .i64 ((jj : Nat))] _ 1 1 (by unfold maxLen; omega) rfl) (by simp [Value.oneCell']) (by omega) (by unfold maxLen; omega) (by simp; omega) ?_; intro A3 cap3 w3 hown3 hg3 _; have h3c := (HCT.out.alloc (.cells #[.int .i64 ((jj : Nat))] 3)).grown hg3 (fun e => by have := (HOT.out.lt _ e.symm).1; omega); have s0 : w3.cell? ⟨w1.heap.size, 0, none⟩ = some (.slice A' k cap') := h3c.cell 0; have s1 := h3c.frozen 0; have hb3 : Below w1.heap.size w1 (w3.setCell ⟨w1.heap.size, 0, none⟩ (.slice A3 (k + 1) cap3)) := (((HBB.out.trans (HB2.out.mono hlo)).alloc (by omega) _).grown hg3 (by simp; omega) (fun g e => by have := (HOT.out.lt g e).1; omega)).setCell (p := ⟨w1.heap.size, 0, none⟩) (by simp) _; obtain ⟨y1, y2, y3⟩ : (w3.setCell ⟨w1.heap.size, 0, none⟩ (.slice A3 (k + 1) cap3)).cell? ⟨w.heap.size, 1, none⟩ = some (.slice (some ⟨bq, off, none⟩) bs.length cap) ∧ (w3.setCell ⟨w1.heap.size, 0, none⟩ (.slice A3 (k + 1) cap3)).cell? ⟨bq, off + k, none⟩ = some (.slice (some ⟨b1, off1, none⟩) l.length cap1) ∧ (w3.setCell ⟨w1.heap.size, 0, none⟩ (.slice A3 (k + 1) cap3)).cell? ⟨b1, off1 + jj * 2, none⟩ = some (.int .u32 o.g) := ⟨(hb3.cell (p := ⟨w.heap.size, 1, none⟩) (by simp; omega)).trans HXC1.out, (hb3.cell (p := ⟨bq, off + k, none⟩) (by simp; omega)).trans HXC2.out, (hb3.cell (p := ⟨b1, off1 + jj * 2, none⟩) (by simp; omega)).trans HXC3.out⟩; have HC3 := Lib.hid h3c; have HO3 := Lib.hid hown3; have HB3 := Lib.hid hb3; clear h3c hown3 hg3 hb3)
            go_roundw
            case rel =>
              refine ⟨k + 1, andNot fi o.g, cs ++ [((jj : Nat) : Int)], A3, cap3, by omega, by go_num, rfl, hfo, ?_, HC3.out.set_ 0 (.slice A3 (k + 1) cap3), ?_, HB3.out⟩
              · rw [HCH.out, choose_drop HL.out fi, HPN.out]
                simp
              · have := own_lo HO3.out (grownBy_setCell w3 ⟨w1.heap.size, 0, none⟩ (.slice A3 (k + 1) cap3)) (fun g e => by simp at e; omega)
                simpa [ints] using this
            case measure => simp [intOf]; omega
        | succ j =>
          have hlj : j < l.length := by omega
          have hji : (((j + 1 : Nat) : Int) - 1) = (j : Int) := by omega
          rw [hji]
          obtain ⟨b1, off1, rfl, _, hb1, hcs1⟩ := HC1.out (by omega)
          obtain ⟨o, ho⟩ : ∃ o, l[j]? = some o := ⟨_, List.getElem?_eq_getElem hlj⟩
          have o0 := (hbw2.cell hb1).trans (hcs1 _ _ (Off.all_fst l j o ho))
          have o1 : wr.cell? ⟨b1, off1 + j * 2 + 1, none⟩ = some (.int .i64 o.c) := (hbw2.cell hb1).trans (hcs1 _ _ (Off.all_snd l j o ho))
          obtain ⟨ho1, ho2, ho3, ho4⟩ := HOK.out.offer HL.out ho
          have hB0 := W_nonneg (bs.drop (k + 1)) (andNot fi o.g)
          have hB1 := HOK.out.W_le (k + 1) (andNot fi o.g)
          have hwrap : IntKind.i64.wrap (o.g : Int) = o.g := IntWalk.i64_in _ (by omega)
          have hbits : bits .and .i64 (o.g : Int) (fi : Int) = ((o.g &&& fi : Nat) : Int) := i64_and_nat o.g fi (by omega) (by omega)
          have hfo : andNot fi o.g < S := Nat.lt_of_le_of_lt (andNot_le _ _) hfi
          obtain ⟨ga, _, p0, ps⟩ := ht2.at (k := k + 1) (Nat.zero_le _) (by omega)
          obtain ⟨gb, _, p2, ps2⟩ := ht2.at (k := k) (Nat.zero_le _) (by omega)
          have p1 := cellAlloc (ps _ hfo)
          have p3 := cellAlloc (ps2 _ hfi)
          have p0 := cellAlloc p0
          have p2 := cellAlloc p2
          have HO := Lib.hid ho
          have HNN := Lib.hid hnn
          have hge : (0 : Int) ≤ (k : Int) := by omega
          have hjn : (0 : Int) ≤ (j : Int) := by omega
          have hjn2 : (j : Int) < (l.length : Int) := by omega
          have hkn : (k : Int) < (bs.length : Int) := by omega
          clear hcs1 ho hnn hb2 hx2 hbw2 ht2 ps ps2
          have hkeep : ∀ (b : Bool), pickB (W (bs.drop (k + 1))) fi (W (bs.drop k) fi) o = b → b = false → ∀ wx : World, Below wo.heap.size wo wx → ((z = -1 ∧ ∀ (i : Nat) (x : Off), j ≤ i → l[i]? = some x → pickB (W (bs.drop (k + 1))) fi (W (bs.drop k) fi) x = false) ∨
            ∃ (jj : Nat) (o : Off), z = jj ∧ l[jj]? = some o ∧ pickB (W (bs.drop (k + 1))) fi (W (bs.drop k) fi) o = true ∧ j ≤ jj ∧ ∀ (i : Nat) (x : Off), j ≤ i → i < jj → l[i]? = some x → pickB (W (bs.drop (k + 1))) fi (W (bs.drop k) fi) x = false) := by
            intro b hb hbf _ _
            subst hbf
            rcases HNN.out with ⟨h1, h2⟩ | ⟨jj, x, h1, h2, h3, h4, h5⟩
            · refine .inl ⟨h1, fun i x hi hx => ?_⟩
              by_cases hij : i = j
              · subst hij; rw [HO.out] at hx; cases hx; exact hb
              · exact h2 i x (by omega) hx
            · refine .inr ⟨jj, x, h1, h2, h3, by omega, fun i y hi hlt hy => ?_⟩
              by_cases hij : i = j
              · subst hij; rw [HO.out] at hy; cases hy; exact hb
              · exact h5 i y (by omega) hlt hy
          have HKEEP := Lib.hid hkeep
          clear hkeep
          by_cases hfit : andNot o.g fi = 0
          · have hsf := (sub_iff (a := o.g) (f := fi) (by omega) (by omega)).2 hfit
            have hfb : (((o.g &&& fi : Nat) : Int) == (o.g : Int)) = true := by simp [hsf]
            have hsub : IntKind.i64.wrap ((fi : Int) - (o.g : Int)) = ((andNot fi o.g : Nat) : Int) := by rw [sub_andNot (by omega) (by omega) hsf]; exact IntWalk.i64_in _ (by omega)
            have HFI := Lib.hid hfit
            have hsum : IntKind.i64.wrap (o.c + W (bs.drop (k + 1)) (andNot fi o.g)) = o.c + W (bs.drop (k + 1)) (andNot fi o.g) := IntWalk.i64_in _ (by omega)
            have hk1 : IntKind.i64.wrap ((k : Int) + 1) = (k : Int) + 1 := IntWalk.i64_in _ (by omega)
            clear hfit hsf
            by_cases heq : o.c + W (bs.drop (k + 1)) (andNot fi o.g) = W (bs.drop k) fi
            · have hpb : pickB (W (bs.drop (k + 1))) fi (W (bs.drop k) fi) o = true := by simp [pickB, HFI.out, heq]
              have HPB := Lib.hid hpb
              have heb : (o.c + W (bs.drop (k + 1)) (andNot fi o.g) == W (bs.drop k) fi) = true := by simp [heq]
              clear heq hpb
              go_wp2_with fail
              go_quiet (fail)
              go_wp2_with fail
              go_roundw
              case rel =>
                exact ⟨j, _, by omega, by go_num, rfl, .inr ⟨j, o, rfl, HO.out, HPB.out, Nat.le_refl _, fun i x h1 h2 => by omega⟩, below_drewN (HB2.out.alloc (by omega) _) _⟩
              case measure => simp [intOf]
            · have hpb : pickB (W (bs.drop (k + 1))) fi (W (bs.drop k) fi) o = false := by simp [pickB, heq]
              have HPB := Lib.hid hpb
              have heb : (o.c + W (bs.drop (k + 1)) (andNot fi o.g) == W (bs.drop k) fi) = false := by simp [heq]
              clear heq hpb
              go_wp2_with fail
              go_quiet (fail)
              go_wp2_with fail
              go_roundw
              case rel =>
                exact ⟨j, _, by omega, by go_num, rfl, HKEEP.out _ HPB.out rfl _ (Below.refl _ _), below_drewN (HB2.out.alloc (by omega) _) _⟩
              case measure => simp [intOf]
          · have hfb : (((o.g &&& fi : Nat) : Int) == (o.g : Int)) = false := by have := mt (sub_iff (a := o.g) (f := fi) (by omega) (by omega)).1 hfit; simpa using (by omega : ¬ ((o.g &&& fi : Nat) : Int) = (o.g : Int))
            have hpb : pickB (W (bs.drop (k + 1))) fi (W (bs.drop k) fi) o = false := by simp [pickB, hfit]
            have HPB := Lib.hid hpb
            clear hfit hpb
            go_wp2_with fail
            go_quiet (fail)
            go_wp2_with fail
            go_roundw
            case rel =>
              exact ⟨j, _, by omega, by go_num, rfl, HKEEP.out _ HPB.out rfl _ (Below.refl _ _), below_drewN (HB2.out.alloc (by omega) _) _⟩
            case measure => simp [intOf]
    · obtain rfl : k = bs.length := by omega
      have hcs : choose bs (S - 1) = cs := by rw [hch]; simp [choose]
      have HCC := Lib.hid hcs
      have HBO := Lib.hid hbo
      have d0 : wo.cell? ⟨w1.heap.size, 0, none⟩ = some (.slice A' bs.length cap') := hcb.cell 0
      have d1 : wo.cell? ⟨w1.heap.size, 1, none⟩ = some (.int .i64 (W bs (S - 1))) := hcb.cell 1
      have hpo : Blk wo (w.heap.size + 1) 66 #[.slice none 0 0, .int .i64 0] := HP1.out.below HBB.out (by omega)
      have p0 : wo.cell? ⟨w.heap.size + 1, 0, none⟩ = some (.slice none 0 0) := hpo.cell 0
      have p1 : wo.cell? ⟨w.heap.size + 1, 1, none⟩ = some (.int .i64 0) := hpo.cell 1
      have p2 := hpo.frozen 0
      have p3 := hpo.frozen 1
      have HPO := Lib.hid hpo
      clear hcs hch hown hb hxo hbo hto hcb hpo
      go_wp2_with fail
      have hq := (HPO.out.set_ 0 (.slice A' bs.length cap')).set_ 1 (.int .i64 (W bs (S - 1)))
      have q0 : ((wo.setCell ⟨w.heap.size + 1, 0, none⟩ (.slice A' bs.length cap')).setCell ⟨w.heap.size + 1, 1, none⟩ (.int .i64 (W bs (S - 1)))).cell? ⟨w.heap.size + 1, 0, none⟩ = some (.slice A' bs.length cap') := hq.cell 0
      have q1 : ((wo.setCell ⟨w.heap.size + 1, 0, none⟩ (.slice A' bs.length cap')).setCell ⟨w.heap.size + 1, 1, none⟩ (.int .i64 (W bs (S - 1)))).cell? ⟨w.heap.size + 1, 1, none⟩ = some (.int .i64 (W bs (S - 1))) := hq.cell 1
      refine bodyPost_ret (v := .tuple #[.agg #[.slice A' bs.length cap', .int .i64 (W bs (S - 1))], .int .i64 0]) (by simp [results, Try.results133, go_sem, q0, q1]) rfl ⟨A', cap', rfl, ?_, ?_⟩
      · rw [HCC.out]
        refine own_mono (own_lo (own_lo HOWN.out (grownBy_setCell _ _ _) ?_) (grownBy_setCell _ _ _) ?_) (show w.heap.size ≤ w1.heap.size + 1 by omega)
        · intro g e; simp at e; omega
        · intro g e; simp at e; omega
      · exact (HBO.out.setCell (p := ⟨w.heap.size + 1, 0, none⟩) (by simp) _).setCell (p := ⟨w.heap.size + 1, 1, none⟩) (by simp) _
end Go.Proofs.Ytcigobiolbojhaa.Vb

/- The reference of layer 15: Best. -/
namespace Go.Proofs.Ytcigobiolbojhaa.Vb
open Go.RowKit

set_option maxHeartbeats 800000 in
theorem refBest15_err (n : Int) (bs : List (List Off)) (v : Value) (R : Nat → Prop) (w : World) (hl : Buys w R v bs) (hi : instE n bs ≠ 0) :
    Calls Try.prog 103 #[.agg #[.int .i64 n, v]] w fun e w' => e = .returned (.tuple #[.agg #[.slice none 0 0, .int .i64 0], .int .i64 (instE n bs)]) ∧ Below w.heap.size w w' := by
  obtain ⟨_, ⟨_, A, cap, rfl, _⟩, _⟩ := id hl
  have HB := Lib.hid hl
  have hne : (instE n bs != 0) = true := by simpa using hi
  clear hl hi
  go_enter Try.func103, Try.ntmps103
  go_wp2_with (go_at_call 30; refine (refInstance_any n bs _ R _ ((HB.out.alloc _).alloc _)).mono ?_; rintro e w1 ⟨rfl, hb1⟩; obtain ⟨hX, hP, hs1, hbw⟩ := two_blk' hb1; have p0 : w1.cell? ⟨w.heap.size + 1, 0, none⟩ = some (.slice none 0 0) := hP.cell 0; have p1 : w1.cell? ⟨w.heap.size + 1, 1, none⟩ = some (.int .i64 0) := hP.cell 1; have p2 := hP.frozen 0; have p3 := hP.frozen 1; have HP := Lib.hid hP; have HBW := Lib.hid hbw; clear hX hP hb1 hbw)
  have hq := (HP.out.set_ 0 (.slice none 0 0)).set_ 1 (.int .i64 0)
  have q0 : ((w1.setCell ⟨w.heap.size + 1, 0, none⟩ (.slice none 0 0)).setCell ⟨w.heap.size + 1, 1, none⟩ (.int .i64 0)).cell? ⟨w.heap.size + 1, 0, none⟩ = some (.slice none 0 0) := hq.cell 0
  have q1 : ((w1.setCell ⟨w.heap.size + 1, 0, none⟩ (.slice none 0 0)).setCell ⟨w.heap.size + 1, 1, none⟩ (.int .i64 0)).cell? ⟨w.heap.size + 1, 1, none⟩ = some (.int .i64 0) := hq.cell 1
  refine bodyPost_ret (v := .tuple #[.agg #[.slice none 0 0, .int .i64 0], .int .i64 (instE n bs)]) (by simp [results, Try.results103, go_sem, q0, q1]) rfl ⟨rfl, ?_⟩
  exact (HBW.out.setCell (p := ⟨w.heap.size + 1, 0, none⟩) (by simp) _).setCell (p := ⟨w.heap.size + 1, 1, none⟩) (by simp) _

set_option maxRecDepth 100000 in
set_option maxHeartbeats 1600000 in
theorem refBest15_ok (n : Int) (bs : List (List Off)) (v : Value) (R : Nat → Prop) (w : World) (hl : Buys w R v bs) (hi : instE n bs = 0) :
    Calls Try.prog 103 #[.agg #[.int .i64 n, v]] w fun e w' => ∃ A' cap', e = .returned (.tuple #[.agg #[.slice A' bs.length cap', .int .i64 (W bs (allOf n))], .int .i64 0]) ∧
      w'.ownsRow w.heap.size 3 1 (.slice A' bs.length cap') bs.length (ints (bestC n bs)) ∧ Below w.heap.size w w' := by
  obtain ⟨hn1, hn2, hl32, _⟩ := instE_zero hi
  obtain ⟨m, rfl⟩ := Int.eq_ofNat_of_zero_le (show 0 ≤ n by omega)
  have hm0 : 1 ≤ m := by omega
  have hm1 : m ≤ 10 := by omega
  obtain ⟨S, hS⟩ : ∃ S, S = 2 ^ m := ⟨_, rfl⟩
  have hal : bestC (m : Int) bs = choose bs (S - 1) := by unfold bestC; rw [allOf_nat hm1, hS]
  have hal2 : allOf (m : Int) = S - 1 := by rw [allOf_nat hm1, hS]
  obtain ⟨_, ⟨_, A, cap, rfl, _⟩, _⟩ := id hl
  rw [hal2, hal]
  have HB := Lib.hid hl
  have HI := Lib.hid hi
  have HS := Lib.hid hS
  clear hl hi hS hal hal2
  go_enter Try.func103, Try.ntmps103
  go_wp2_with (go_at_call 30; refine (refInstance_any (m : Int) bs _ R _ ((HB.out.alloc _).alloc _)).mono ?_; rintro e w1 ⟨rfl, hb1⟩; rw [HI.out]; obtain ⟨hX, hP, hs1, hbw⟩ := two_blk' hb1; have x0 : w1.cell? ⟨w.heap.size, 0, none⟩ = some (.int .i64 m) := hX.cell 0; have x1 : w1.cell? ⟨w.heap.size, 1, none⟩ = some (.slice A bs.length cap) := hX.cell 1; have HX := Lib.hid hX; have HP := Lib.hid hP; have HBW := Lib.hid hbw; clear hX hP hb1 hbw)
  refine wp_region_F (Below (w.heap.size + 1) w1) [] (by kernel_rfl) ((Below.refl _ _).drew) (fun hS => ?_)
  refine wpAnyF_take (i := 0) (oi := { dst := some 11, op := Go.Op.load 24 (Go.Operand.tmp 1), type := 24, pos := "ref.go:93", after := #[], guard := none }) (v := ?_) rfl (by kernel_rfl) (by kernel_rfl) (by kernel_rfl) (by kernel_rfl) (fun _ _ _ h => h) (Or.inl ⟨by rfl, ?_⟩) hS ?_
  rotate_left
  · intro w' hSw; have q1 := (hSw.cell (p := ⟨w.heap.size, 0, none⟩) (by simp <;> omega)).trans x0; have q2 := (hSw.cell (p := ⟨w.heap.size, 1, none⟩) (by simp <;> omega)).trans x1; go_simp; try with_reducible rfl
  try simp only [Act.put, List.setIfInBounds_toArray, List.set_cons_zero, List.set_cons_succ]
  refine wpAnyF_take (i := 1) (oi := { dst := some 12, op := Go.Op.load 24 (Go.Operand.tmp 1), type := 24, pos := "ref.go:93", after := #[], guard := none }) (v := ?_) rfl (by kernel_rfl) (by kernel_rfl) (by kernel_rfl) (by kernel_rfl) (fun _ _ _ h => h) (Or.inl ⟨by rfl, ?_⟩) hS ?_
  rotate_left
  · intro w' hSw; have q1 := (hSw.cell (p := ⟨w.heap.size, 0, none⟩) (by simp <;> omega)).trans x0; have q2 := (hSw.cell (p := ⟨w.heap.size, 1, none⟩) (by simp <;> omega)).trans x1; go_simp; try with_reducible rfl
  try simp only [Act.put, List.setIfInBounds_toArray, List.set_cons_zero, List.set_cons_succ]
  refine wpAnyF_ready (rs := [2]) (by kernel_rfl) (by simp) ?_
  refine AllReadyF.cons (o := { dst := some 13, op := Go.Op.call { callee := Go.Callee.value (Go.Operand.func 134), args := #[Go.Operand.tmp 12], argTypes := #[24] }, type := 43, pos := "ref.go:93", after := #[{ on := 1, ground := Go.Ground.data }], guard := none }) rfl (by rfl) (fun K hK => ?_) ?_
  · go_simp
    refine (whole15_any m S hm0 hm1 HS.out _ _ ⟨_, _, _, rfl⟩).mono ?_
    rintro e w2 ⟨rfl, hb2⟩
    refine hK.out _ _ ?_ (fun hS => ?_)
    · exact hS.trans (hb2.mono (by have := hS.size; simp at this ⊢; omega))
    clear hK K
    try simp only [Act.put, List.setIfInBounds_toArray, List.set_cons_zero, List.set_cons_succ]
    refine wpAnyF_ready (rs := [3]) (by kernel_rfl) (by simp) ?_
    refine AllReadyF.cons (o := { dst := some 14, op := Go.Op.call { callee := Go.Callee.value (Go.Operand.func 133), args := #[Go.Operand.tmp 11, Go.Operand.const (Go.Value.int Go.IntKind.i64 0), Go.Operand.tmp 13], argTypes := #[24, 3, 43] }, type := 168, pos := "ref.go:93", after := #[{ on := 0, ground := Go.Ground.data }, { on := 2, ground := Go.Ground.data }, { on := 2, ground := Go.Ground.chain }], guard := none }) rfl (by rfl) (fun K hK => ?_) ?_
    · go_simp
      refine (part15_any m S HS.out bs _ R _ (((HB.out.grow HBW.out).drew).grow hb2) HI.out).mono ?_
      rintro e w3 ⟨A3, c3, rfl, hown3, hb3⟩
      refine hK.out _ _ ?_ (fun hS => ?_)
      · exact hS.trans (hb3.mono (by have := hS.size; omega))
      clear hK K
      try simp only [Act.put, List.setIfInBounds_toArray, List.set_cons_zero, List.set_cons_succ]
      refine wpAnyF_take (i := 4) (oi := { dst := some 15, op := Go.Op.extract (Go.Operand.tmp 14) 0, type := 66, pos := "ref.go:93", after := #[{ on := 3, ground := Go.Ground.data }], guard := none }) (v := ?_) rfl (by kernel_rfl) (by kernel_rfl) (by kernel_rfl) (by kernel_rfl) (fun _ _ _ h => h) (Or.inl ⟨by rfl, ?_⟩) hS ?_
      rotate_left
      · intro w' hSw; have q1 := (hSw.cell (p := ⟨w.heap.size, 0, none⟩) (by simp <;> omega)).trans x0; have q2 := (hSw.cell (p := ⟨w.heap.size, 1, none⟩) (by simp <;> omega)).trans x1; go_simp; try with_reducible rfl
      try simp only [Act.put, List.setIfInBounds_toArray, List.set_cons_zero, List.set_cons_succ]
      refine wpAnyF_take (i := 5) (oi := { dst := some 16, op := Go.Op.extract (Go.Operand.tmp 14) 1, type := 3, pos := "ref.go:93", after := #[{ on := 3, ground := Go.Ground.data }], guard := none }) (v := ?_) rfl (by kernel_rfl) (by kernel_rfl) (by kernel_rfl) (by kernel_rfl) (fun _ _ _ h => h) (Or.inl ⟨by rfl, ?_⟩) hS ?_
      rotate_left
      · intro w' hSw; have q1 := (hSw.cell (p := ⟨w.heap.size, 0, none⟩) (by simp <;> omega)).trans x0; have q2 := (hSw.cell (p := ⟨w.heap.size, 1, none⟩) (by simp <;> omega)).trans x1; go_simp; try with_reducible rfl
      try simp only [Act.put, List.setIfInBounds_toArray, List.set_cons_zero, List.set_cons_succ]
      refine wpAnyF_ready (rs := [6]) (by kernel_rfl) (by simp) ?_
      refine AllReadyF.cons (o := { dst := none, op := Go.Op.store 66 (Go.Operand.tmp 2) (Go.Operand.tmp 15), type := 0, pos := "ref.go:93", after := #[{ on := 4, ground := Go.Ground.data }, { on := 3, ground := Go.Ground.chain }, { on := 0, ground := Go.Ground.phase }, { on := 1, ground := Go.Ground.phase }, { on := 2, ground := Go.Ground.phase }, { on := 3, ground := Go.Ground.phase }, { on := 4, ground := Go.Ground.phase }, { on := 5, ground := Go.Ground.phase }], guard := none }) rfl (by rfl) (fun K hK => ?_) ?_
      · have hP3 := (HP.out.drew.grow hb2).grow hb3
        have p0 : w3.cell? ⟨w.heap.size + 1, 0, none⟩ = some (.slice none 0 0) := hP3.cell 0
        have p1 : w3.cell? ⟨w.heap.size + 1, 1, none⟩ = some (.int .i64 0) := hP3.cell 1
        have p2 := hP3.frozen 0
        have p3 := hP3.frozen 1
        go_simp
        refine hK.out _ _ ?_ (fun hS => ?_)
        · exact (hS.setCell (p := ⟨w.heap.size + 1, 0, none⟩) (by simp) _).setCell (p := ⟨w.heap.size + 1, 1, none⟩) (by simp) _
        clear hK K
        try simp only [Act.put, List.setIfInBounds_toArray, List.set_cons_zero, List.set_cons_succ]
        refine wpAnyF_take (i := 7) (oi := { dst := some 3, op := Go.Op.assign (Go.Operand.tmp 16), type := 3, pos := "ref.go:93", after := #[{ on := 5, ground := Go.Ground.data }, { on := 6, ground := Go.Ground.chain }, { on := 0, ground := Go.Ground.phase }, { on := 1, ground := Go.Ground.phase }, { on := 2, ground := Go.Ground.phase }, { on := 3, ground := Go.Ground.phase }, { on := 4, ground := Go.Ground.phase }, { on := 5, ground := Go.Ground.phase }, { on := 6, ground := Go.Ground.phase }], guard := none }) (v := ?_) rfl (by kernel_rfl) (by kernel_rfl) (by kernel_rfl) (by kernel_rfl) (fun _ _ _ h => h) (Or.inl ⟨by rfl, ?_⟩) hS ?_
        rotate_left
        · intro w' hSw; have q1 := (hSw.cell (p := ⟨w.heap.size, 0, none⟩) (by simp <;> omega)).trans x0; have q2 := (hSw.cell (p := ⟨w.heap.size, 1, none⟩) (by simp <;> omega)).trans x1; go_simp; try with_reducible rfl
        try simp only [Act.put, List.setIfInBounds_toArray, List.set_cons_zero, List.set_cons_succ]
        refine wpAnyF_done (by kernel_rfl) ?_ _
        have hP3 := (HP.out.drew.grow hb2).grow hb3
        have hs2 := hb2.size
        simp at hs2
        have hs3 := hb3.size
        have hown4 := own_mono hown3 (show w.heap.size + 2 ≤ w2.heap.size by omega)
        have HP3 := Lib.hid hP3
        have HO3 := Lib.hid hown4
        have HB3 := Lib.hid (HBW.out.trans (hS.mono (by omega)))
        clear hP3 hown3 hown4 hb3 hb2 hS
        go_wp2_with fail
        have hq := (HP3.out.set_ 0 (.slice A3 bs.length c3)).set_ 1 (.int .i64 (W bs (S - 1)))
        have q0 : ((w3.setCell ⟨w.heap.size + 1, 0, none⟩ (.slice A3 bs.length c3)).setCell ⟨w.heap.size + 1, 1, none⟩ (.int .i64 (W bs (S - 1)))).cell? ⟨w.heap.size + 1, 0, none⟩ = some (.slice A3 bs.length c3) := hq.cell 0
        have q1 : ((w3.setCell ⟨w.heap.size + 1, 0, none⟩ (.slice A3 bs.length c3)).setCell ⟨w.heap.size + 1, 1, none⟩ (.int .i64 (W bs (S - 1)))).cell? ⟨w.heap.size + 1, 1, none⟩ = some (.int .i64 (W bs (S - 1))) := hq.cell 1
        refine bodyPost_ret (v := .tuple #[.agg #[.slice A3 bs.length c3, .int .i64 (W bs (S - 1))], .int .i64 0]) (by simp [results, Try.results103, go_sem, q0, q1]) rfl ⟨A3, c3, rfl, ?_, HB3.out⟩
        refine own_mono (own_lo (own_lo HO3.out (grownBy_setCell _ _ _) ?_) (grownBy_setCell _ _ _) ?_) (show w.heap.size ≤ w.heap.size + 2 by omega)
        · intro g e; simp at e; omega
        · intro g e; simp at e; omega
      exact AllReadyF.nil
    exact AllReadyF.nil
  exact AllReadyF.nil
end Go.Proofs.Ytcigobiolbojhaa.Vb

/- The reference of layer 15: Without. -/
namespace Go.Proofs.Ytcigobiolbojhaa.Vb
open Go.RowKit

set_option maxRecDepth 100000 in
set_option maxHeartbeats 1600000 in
theorem refWithout15_ok (n : Int) (bs : List (List Off)) (buyer : Int) (v : Value) (R : Nat → Prop) (w : World) (hl : Buys w R v bs) (he : withE n bs buyer [] = 0) :
    Calls Try.prog 131 #[.agg #[.int .i64 n, v], .int .i64 buyer] w fun e w' => ∃ A' m' cap', e = .returned (.tuple #[.agg #[.slice A' m' cap', .int .i64 (W (bs.set buyer.toNat []) (allOf n))], .int .i64 0]) ∧ Below w.heap.size w w' := by
  obtain ⟨vs, ⟨_, A, cap, rfl, _⟩, _⟩ := id hl
  have HB := Lib.hid hl
  have hI := instE_nil (i := buyer.toNat) (withE_inst he)
  have HE := Lib.hid he
  have HI := Lib.hid hI
  clear hl he hI
  go_enter Try.func131, Try.ntmps131
  go_wp2_with fail
  refine (refWith_ok n bs buyer [] _ _ R (fun _ => True) _ ((HB.out.alloc _).alloc _) (Offs.nil _ _) HE.out).mono ?_
  rintro e w1 ⟨A1, cap1, rfl, hob, hb1⟩
  obtain ⟨hX, hP, hs1, hbw⟩ := two_blk' hb1
  have HOB := Lib.hid hob
  have HP := Lib.hid hP
  have HBW := Lib.hid hbw
  clear hX hP hb1 hbw hob
  go_wp2_with fail
  refine (refBest15_ok n (bs.set buyer.toNat []) (.slice A1 bs.length cap1) _ _ (HOB.out.alloc _) HI.out).mono ?_
  rintro e w2 ⟨A2, c2, rfl, _, hb2⟩
  rw [List.length_set]
  have hP2 := (HP.out.alloc _).grow hb2
  have p0 : w2.cell? ⟨w.heap.size + 1, 0, none⟩ = some (.slice none 0 0) := hP2.cell 0
  have p1 : w2.cell? ⟨w.heap.size + 1, 1, none⟩ = some (.int .i64 0) := hP2.cell 1
  have p2 := hP2.frozen 0
  have p3 := hP2.frozen 1
  have HP2 := Lib.hid hP2
  have HB2 := Lib.hid ((HBW.out.alloc HBW.out.size _).trans (hb2.mono (B' := w.heap.size) (by have := HBW.out.size; simp; omega)))
  clear hP2 hb2
  go_wp2_with fail
  have hq := (HP2.out.set_ 0 (.slice A2 bs.length c2)).set_ 1 (.int .i64 (W (bs.set buyer.toNat []) (allOf n)))
  have q0 : ((w2.setCell ⟨w.heap.size + 1, 0, none⟩ (.slice A2 bs.length c2)).setCell ⟨w.heap.size + 1, 1, none⟩ (.int .i64 (W (bs.set buyer.toNat []) (allOf n)))).cell? ⟨w.heap.size + 1, 0, none⟩ = some (.slice A2 bs.length c2) := hq.cell 0
  have q1 : ((w2.setCell ⟨w.heap.size + 1, 0, none⟩ (.slice A2 bs.length c2)).setCell ⟨w.heap.size + 1, 1, none⟩ (.int .i64 (W (bs.set buyer.toNat []) (allOf n)))).cell? ⟨w.heap.size + 1, 1, none⟩ = some (.int .i64 (W (bs.set buyer.toNat []) (allOf n))) := hq.cell 1
  refine bodyPost_ret (v := .tuple #[.agg #[.slice A2 bs.length c2, .int .i64 (W (bs.set buyer.toNat []) (allOf n))], .int .i64 0]) (by simp [results, Try.results131, go_sem, q0, q1]) rfl ⟨A2, _, c2, rfl, ?_⟩
  exact (HB2.out.setCell (p := ⟨w.heap.size + 1, 0, none⟩) (by simp) _).setCell (p := ⟨w.heap.size + 1, 1, none⟩) (by simp) _
end Go.Proofs.Ytcigobiolbojhaa.Vb

/- The sums of layer 18; what is won, as it lies in memory. -/
namespace Go.Proofs.Ytcigobiolbojhaa.Vb
open Go.RowKit

set_option maxHeartbeats 800000 in
theorem coreTotal_any (ps : List Int) (pv : Value) (R : Nat → Prop) (w : World) (h : Sl w R pv ps.length 1 (ints ps)) (hb : ∀ x ∈ ps, -9007199254740992 ≤ x ∧ x ≤ 9007199254740992) (hn : ps.length ≤ 64) :
    Calls Try.prog 101 #[pv] w fun e w' => e = .returned (.int .i64 (sumI ps)) ∧ w = w' := by
  obtain ⟨_, A, cap, rfl, hnc, hcm, hcs⟩ := h
  unfold maxLen at hcm
  have HC := Lib.hid hcs
  have HB := Lib.hid hb
  clear hcs hb
  go_enter Try.func101, Try.ntmps101
  go_wp2
  go_loop [3, 8] (fun s i => ∃ k : Nat, k ≤ ps.length ∧ i = .int .i64 k ∧ s = .int .i64 (sumI (ps.take k))) (fun _ i => ps.length - (intOf i).toNat)
  case atStart => exact ⟨0, Nat.zero_le _, rfl, rfl⟩
  case round =>
    obtain ⟨k, hk, rfl, rfl⟩ := hrel
    by_cases hlt : k < ps.length
    · obtain ⟨bb, off, rfl, _, hbb, hcs⟩ := HC.out (by omega)
      obtain ⟨c, hc⟩ : ∃ c, ps[k]? = some c := ⟨_, List.getElem?_eq_getElem hlt⟩
      have c0 := hcs _ _ (ints_get hc)
      have hst := sumI_take hc
      have h1 := sumI_bd (ps.take k) (fun x hx => HB.out x (List.mem_of_mem_take hx))
      have h2 := HB.out c (List.mem_of_getElem? hc)
      have hkl : ((ps.take k).length : Int) = k := by simp; omega
      rw [hkl] at h1
      have hsum : IntKind.i64.wrap (sumI (ps.take k) + c) = sumI (ps.take k) + c := IntWalk.i64_in _ (by omega)
      have HST := Lib.hid hst
      clear hst h1 h2 hc hcs
      go_wp2
      go_round
      case rel => exact ⟨k + 1, by omega, by go_num, by rw [HST.out]⟩
      case measure => simp [intOf]; omega
    · obtain rfl : k = ps.length := by omega
      rw [List.take_length]
      go_wp2
      go_ret
      exact ⟨rfl, rfl⟩

set_option maxHeartbeats 800000 in
theorem refTotal_any (ps : List Int) (pv : Value) (R : Nat → Prop) (w : World) (h : Sl w R pv ps.length 1 (ints ps)) (hb : ∀ x ∈ ps, -9007199254740992 ≤ x ∧ x ≤ 9007199254740992) (hn : ps.length ≤ 64) :
    Calls Try.prog 104 #[pv] w fun e w' => e = .returned (.int .i64 (sumI ps)) ∧ w = w' := by
  obtain ⟨_, A, cap, rfl, hnc, hcm, hcs⟩ := h
  unfold maxLen at hcm
  have HC := Lib.hid hcs
  have HB := Lib.hid hb
  clear hcs hb
  go_enter Try.func104, Try.ntmps104
  go_wp2
  go_loop [3, 4] (fun s i => ∃ k : Nat, k ≤ ps.length ∧ i = .int .i64 k ∧ s = .int .i64 (sumI (ps.take k))) (fun _ i => ps.length - (intOf i).toNat)
  case atStart => exact ⟨0, Nat.zero_le _, rfl, rfl⟩
  case round =>
    obtain ⟨k, hk, rfl, rfl⟩ := hrel
    by_cases hlt : k < ps.length
    · obtain ⟨bb, off, rfl, _, hbb, hcs⟩ := HC.out (by omega)
      obtain ⟨c, hc⟩ : ∃ c, ps[k]? = some c := ⟨_, List.getElem?_eq_getElem hlt⟩
      have c0 := hcs _ _ (ints_get hc)
      have hst := sumI_take hc
      have h1 := sumI_bd (ps.take k) (fun x hx => HB.out x (List.mem_of_mem_take hx))
      have h2 := HB.out c (List.mem_of_getElem? hc)
      have hkl : ((ps.take k).length : Int) = k := by simp; omega
      rw [hkl] at h1
      have hsum : IntKind.i64.wrap (sumI (ps.take k) + c) = sumI (ps.take k) + c := IntWalk.i64_in _ (by omega)
      have HST := Lib.hid hst
      clear hst h1 h2 hc hcs
      go_wp2
      go_round
      case rel => exact ⟨k + 1, by omega, by go_num, by rw [HST.out]⟩
      case measure => simp [intOf]; omega
    · obtain rfl : k = ps.length := by omega
      rw [List.take_length]
      go_wp2
      go_ret
      exact ⟨rfl, rfl⟩

set_option maxHeartbeats 800000 in
theorem lawTotal_any (ps : List Int) (pv : Value) (R : Nat → Prop) (w : World) (h : Sl w R pv ps.length 1 (ints ps)) (hb : ∀ x ∈ ps, -9007199254740992 ≤ x ∧ x ≤ 9007199254740992) (hn : ps.length ≤ 64) :
    Calls Try.prog 102 #[pv] w fun e w' => e = .returned (.int .i64 (sumI ps)) ∧ w = w' := by
  obtain ⟨_, A, cap, rfl, hnc, hcm, hcs⟩ := h
  unfold maxLen at hcm
  have HC := Lib.hid hcs
  have HB := Lib.hid hb
  clear hcs hb
  go_enter Try.func102, Try.ntmps102
  go_wp2
  go_loop [3, 4] (fun s i => ∃ k : Nat, k ≤ ps.length ∧ i = .int .i64 k ∧ s = .int .i64 (sumI (ps.take k))) (fun _ i => ps.length - (intOf i).toNat)
  case atStart => exact ⟨0, Nat.zero_le _, rfl, rfl⟩
  case round =>
    obtain ⟨k, hk, rfl, rfl⟩ := hrel
    by_cases hlt : k < ps.length
    · obtain ⟨bb, off, rfl, _, hbb, hcs⟩ := HC.out (by omega)
      obtain ⟨c, hc⟩ : ∃ c, ps[k]? = some c := ⟨_, List.getElem?_eq_getElem hlt⟩
      have c0 := hcs _ _ (ints_get hc)
      have hst := sumI_take hc
      have h1 := sumI_bd (ps.take k) (fun x hx => HB.out x (List.mem_of_mem_take hx))
      have h2 := HB.out c (List.mem_of_getElem? hc)
      have hkl : ((ps.take k).length : Int) = k := by simp; omega
      rw [hkl] at h1
      have hsum : IntKind.i64.wrap (sumI (ps.take k) + c) = sumI (ps.take k) + c := IntWalk.i64_in _ (by omega)
      have HST := Lib.hid hst
      clear hst h1 h2 hc hcs
      go_wp2
      go_round
      case rel => exact ⟨k + 1, by omega, by go_num, by rw [HST.out]⟩
      case measure => simp [intOf]; omega
    · obtain rfl : k = ps.length := by omega
      rw [List.take_length]
      go_wp2
      go_ret
      exact ⟨rfl, rfl⟩

end Go.Proofs.Ytcigobiolbojhaa.Vb

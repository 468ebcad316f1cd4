/- Joined by program: Raised Sec Sealed Come MapI Sell PlainS Single. -/
import Derived.Test.YtcigobiolbojhaaZe
import Derived.Test.YtcigobiolbojhaaZa
import Derived.Test.YtcigobiolbojhaaZb
import Derived.Maps.OwnOps
import Derived.Maps.Views
import Derived.Maps.OwnSet
/- Law 17's own: raised. -/
namespace Go.Proofs.Ytcigobiolbojhaa.Vb
open Go.RowKit

theorem badB_raise {all : Nat} {o : Off} {more : Int} (h : badB all o = false) (h1 : 0 ≤ more) (h2 : o.c + more ≤ 1099511627776) : badB all ⟨o.g, o.c + more⟩ = false := by
  simp only [badB, Bool.or_eq_false_iff, beq_eq_false_iff_ne, Bool.not_eq_false', beq_iff_eq, decide_eq_false_iff_not] at h ⊢
  obtain ⟨⟨⟨a, b⟩, c⟩, d⟩ := h
  exact ⟨⟨⟨a, b⟩, by omega⟩, by omega⟩
theorem raiseL_len (l : List Off) (n : Nat) (more : Int) : (raiseL l n more).length = l.length := by simp [raiseL]
theorem checkE_raise {n : Int} {l : List Off} {j : Nat} {o : Off} {more : Int} (h : checkE n l = 0) (ho : l[j]? = some o) (h1 : 0 ≤ more) (h2 : o.c + more ≤ 1099511627776) : checkE n (raiseL l j more) = 0 := by
  unfold checkE at h ⊢
  by_cases hn : n < 1 ∨ 10 < n
  · rw [if_pos hn] at h; cases h
  · rw [if_neg hn] at h ⊢
    by_cases h8 : 8 < l.length
    · rw [if_pos h8] at h; cases h
    · rw [if_neg h8] at h
      rw [if_neg (by rw [raiseL_len]; exact h8)]
      cases hb : badAt (2 ^ n.toNat - 1) l with
      | some k => rw [hb] at h; cases h
      | none =>
        have hall := (badAt_none_iff _ l).1 hb
        have : badAt (2 ^ n.toNat - 1) (raiseL l j more) = none := (badAt_none_iff _ _).2 fun x hx => by
          obtain ⟨i, hi⟩ := List.getElem?_of_mem hx
          rw [raiseL_get] at hi
          cases hl : l[i]? with
          | none => rw [hl] at hi; cases hi
          | some y =>
            rw [hl] at hi
            simp only [Option.map_some, Option.some.injEq] at hi
            by_cases hij : i = j
            · subst hij
              rw [ho] at hl
              have hl' := Option.some.inj hl
              subst hl'
              rw [if_pos rfl] at hi
              subst hi
              exact badB_raise (hall o (List.mem_of_getElem? ho)) h1 h2
            · rw [if_neg hij] at hi
              subst hi
              exact hall y (List.mem_of_getElem? hl)
        rw [this]
theorem withE_in {n : Int} {bs : List (List Off)} {b : Nat} {l : List Off} (h : instE n bs = 0) (hb : b < bs.length) : withE n bs (b : Int) l = checkE n l := by
  unfold withE
  rw [if_neg (by simpa using h), if_neg (by omega)]
theorem raise_set {bs : List (List Off)} {b j : Nat} {l : List Off} {more : Int} (hl : bs[b]? = some l) : bs.set b (raiseL l j more) = raiseB bs b j more := by
  apply List.ext_getElem?
  intro i
  unfold raiseB
  rw [List.getElem?_set, List.getElem?_modify]
  have hlt := (List.getElem?_eq_some_iff.1 hl).1
  by_cases h : b = i
  · subst h
    rw [hl]
    simp [hlt]
  · cases bs[i]? <;> simp [h]
theorem raise_costs {n : Int} {bs : List (List Off)} {b j : Nat} {l : List Off} {o : Off} {more : Int} (hm : 0 < more) (hi : instE n bs = 0) (hi' : instE n (raiseB bs b j more) = 0) (hc : (bestC n bs)[b]? = some (j : Int)) (hl : bs[b]? = some l) (ho : l[j]? = some o) :
    W (raiseB bs b j more) (allOf n) = W bs (allOf n) + more ∧ (bestC n (raiseB bs b j more))[b]? = some (j : Int) ∧ (paysC n (raiseB bs b j more))[b]? = (paysC n bs)[b]? := by
  obtain ⟨h1, h2⟩ := choose_raise hm bs b (allOf n) j l o hc hl ho
  have hlt := (List.getElem?_eq_some_iff.1 hl).1
  refine ⟨h1, h2, ?_⟩
  have hl' : (raiseB bs b j more)[b]? = some (raiseL l j more) := by unfold raiseB; rw [List.getElem?_modify, hl]; simp
  have ho' : (raiseL l j more)[j]? = some ⟨o.g, o.c + more⟩ := by rw [raiseL_get, ho]; simp
  rw [paysC_get h2, paysC_get hc]
  unfold payAt
  rw [if_neg (by omega), if_neg (by omega), coinAt_some hl ho, coinAt_some hl' ho', h1]
  have hset : (raiseB bs b j more).set b [] = bs.set b [] := by
    rw [← raise_set hl, List.set_set]
  unfold woW
  rw [if_pos (instE_withE hi hlt), if_pos (instE_withE hi' (by unfold raiseB; simpa using hlt)), Int.toNat_natCast, hset]
  simp only
  congr 1
  omega

set_option maxHeartbeats 1600000 in
theorem all_raise {l : List Off} {j : Nat} {o : Off} {more : Int} (ho : l[j]? = some o) : (Off.all l).set (j * 2 + 1) (.int .i64 (o.c + more)) = Off.all (raiseL l j more) := by
  induction l generalizing j with
  | nil => simp at ho
  | cons x l ih =>
    cases j with
    | zero => simp at ho; subst ho; rfl
    | succ j =>
      have := ih (j := j) (by simpa using ho)
      have e : raiseL (x :: l) (j + 1) more = x :: raiseL l j more := rfl
      rw [e]
      simp only [Off.all, List.flatMap_cons, Off.cells] at this ⊢
      rw [show (j + 1) * 2 + 1 = j * 2 + 1 + 2 from by omega]
      simp only [List.cons_append, List.nil_append, List.set_cons_succ, this]

set_option maxRecDepth 100000 in
set_option maxHeartbeats 3200000 in
/-- how raised comes out where nothing is raised -/
theorem raised_no (n : Int) (bs : List (List Off)) (buyer more : Int) (W0 : Int) (vx cv pv : Value) (R R1 : Nat → Prop) (w : World) (hl : Buys w R vx bs) (hc : Sl w R1 cv bs.length 1 (ints (bestC n bs))) (_ : bs.length ≤ 40)
    (hno : buyer < 0 ∨ (bs.length : Int) ≤ buyer ∨ (∃ c, (bestC n bs)[buyer.toNat]? = some c ∧ c < 0) ∨ more < 1 ∨ 1000000 < more) :
    Calls Try.prog 34 #[.agg #[.int .i64 n, vx], .agg #[cv, .int .i64 W0, pv], .int .i64 buyer, .int .i64 more] w fun e w' => e = .returned (.bool true) ∧ Below w.heap.size w w' := by
  obtain ⟨_, ⟨_, A, cap, rfl, _⟩, _⟩ := id hl
  obtain ⟨_, CA, cc, rfl, _⟩ := id hc
  have HC := Lib.hid hc
  have hB2 := Lib.hid (((Below.refl w.heap.size w).alloc (Nat.le_refl _) (.cells #[.int .i64 n, .slice A bs.length cap] 24)).alloc (by simp) (.cells #[.slice CA bs.length cc, .int .i64 W0, pv] 36))
  clear hl hc
  by_cases h0 : buyer < 0
  · clear hno
    go_enter Try.func34, Try.ntmps34
    go_wp2
    go_ret
    exact ⟨rfl, hB2.out⟩
  · by_cases h1 : (bs.length : Int) ≤ buyer
    · clear hno
      go_enter Try.func34, Try.ntmps34
      go_wp2
      go_ret
      exact ⟨rfl, hB2.out⟩
    · obtain ⟨b, rfl⟩ := Int.eq_ofNat_of_zero_le (show 0 ≤ buyer by omega)
      rw [Int.toNat_natCast] at hno
      have hb : b < bs.length := by omega
      have hb' : ¬ bs.length ≤ b := by omega
      obtain ⟨bc, oc, c, rfl, _, hcb, hcell⟩ := HC.out.int_at hb
      rw [hcb] at hno
      have hcell' := cellAlloc (cellAlloc hcell (.cells #[.int .i64 n, .slice A bs.length cap] 24)) (.cells #[.slice (some ⟨bc, oc, none⟩) bs.length cc, .int .i64 W0, pv] 36)
      have hno' : c < 0 ∨ more < 1 ∨ 1000000 < more := by
        rcases hno with h | h | ⟨c', h, h'⟩ | h | h
        · omega
        · omega
        · injection h with h; subst h; exact .inl h'
        · exact .inr (.inl h)
        · exact .inr (.inr h)
      clear hno hcb hcell h0 h1 hb'
      by_cases h2 : c < 0
      · clear hno'
        go_enter Try.func34, Try.ntmps34
        go_wp2
        go_ret
        exact ⟨rfl, hB2.out⟩
      · by_cases h3 : more < 1
        · clear hno'
          go_enter Try.func34, Try.ntmps34
          go_wp2
          go_ret
          exact ⟨rfl, hB2.out⟩
        · have h4 : 1000000 < more := by omega
          clear hno'
          go_enter Try.func34, Try.ntmps34
          go_wp2
          go_ret
          exact ⟨rfl, hB2.out⟩

set_option maxRecDepth 100000 in
set_option maxHeartbeats 3200000 in
theorem raised_yes (n : Int) (bs : List (List Off)) (b : Nat) (more : Int) (j : Nat) (l : List Off) (o : Off) (vx cv pv : Value) (R R1 R2 : Nat → Prop) (w : World) (hl : Buys w R vx bs) (hi : instE n bs = 0)
    (hc : Sl w R1 cv bs.length 1 (ints (bestC n bs))) (hp : Sl w R2 pv bs.length 1 (ints (paysC n bs))) (hb : b < bs.length) (hcb : (bestC n bs)[b]? = some (j : Int)) (hlb : bs[b]? = some l) (ho : l[j]? = some o) (hm1 : 1 ≤ more) (hm2 : more ≤ 1000000) :
    Calls Try.prog 34 #[.agg #[.int .i64 n, vx], .agg #[cv, .int .i64 (W bs (allOf n)), pv], .int .i64 (b : Int), .int .i64 more] w fun e w' => e = .returned (.bool true) ∧ Below w.heap.size w w' := by
  have HB := Lib.hid hl
  have HCV := Lib.hid hc
  have HPV := Lib.hid hp
  have HI := Lib.hid hi
  have hbl := (instE_zero hi).2.2.1
  have hl8 := (instE_zero hi).2.2.2.1 l (List.mem_of_getElem? hlb)
  have hlen := List.getElem?_eq_some_iff.1 ho |>.1
  obtain ⟨vs, ⟨hvl, A, cap, rfl, hncap, hcap, hcells⟩, hvs⟩ := id hl
  obtain ⟨_, CA, cc, rfl, _⟩ := id hc
  obtain ⟨_, PA, pc, rfl, _⟩ := id hp
  obtain ⟨bq, off, rfl, _, hbq, hcs⟩ := hcells (by omega)
  obtain ⟨u, hu, hol⟩ := hvs b l hlb
  have hcu := hcs _ _ hu
  obtain ⟨⟨_, A1, cap1, rfl, _⟩, _⟩ := id hol
  obtain ⟨bc, oc, c, rfl, hbc, hcb', hcell⟩ := hc.int_at hb
  rw [hcb] at hcb'
  have hcc := (Option.some.inj hcb').symm
  subst hcc
  have HOL := Lib.hid hol
  have HCU := Lib.hid hcu
  have HCE := Lib.hid hcell
  obtain ⟨hof, ho0, ho1⟩ := HOL.out.2 o (List.mem_of_getElem? ho)
  have hok := ((okb_of (buys_wf hl) hi).1.offer hlb ho).2.2
  obtain ⟨hok1, hok2⟩ := hok
  have HO := Lib.hid ho
  have HLB := Lib.hid hlb
  have HCB := Lib.hid hcb
  have hbi : ¬ (bs.length : Int) ≤ (b : Int) := by omega
  have hbn : ¬ bs.length ≤ b := by omega
  have e1 : (0 : Int) ≤ (b : Int) := by omega
  have e2 : (b : Int) < (bs.length : Int) := by omega
  have e3 : (0 : Int) ≤ (j : Int) := by omega
  have e4 : (j : Int) < (l.length : Int) := by omega
  have hm3 : ¬ more < 1 := by omega
  have hm4 : ¬ 1000000 < more := by omega
  -- the world behind the two boxes
  have hX := (Blk.new w 24 #[.int .i64 n, .slice (some ⟨bq, off, none⟩) bs.length cap]).alloc (.cells #[.slice (some ⟨bc, oc, none⟩) bs.length cc, .int .i64 (W bs (allOf n)), .slice PA bs.length pc] 36)
  have hP : Blk ((w.alloc (.cells #[.int .i64 n, .slice (some ⟨bq, off, none⟩) bs.length cap] 24)).alloc (.cells #[.slice (some ⟨bc, oc, none⟩) bs.length cc, .int .i64 (W bs (allOf n)), .slice PA bs.length pc] 36)) (w.heap.size + 1) 36 #[.slice (some ⟨bc, oc, none⟩) bs.length cc, .int .i64 (W bs (allOf n)), .slice PA bs.length pc] := Blk.new' _ _ (by simp)
  have hB0 : Below w.heap.size w ((w.alloc (.cells #[.int .i64 n, .slice (some ⟨bq, off, none⟩) bs.length cap] 24)).alloc (.cells #[.slice (some ⟨bc, oc, none⟩) bs.length cc, .int .i64 (W bs (allOf n)), .slice PA bs.length pc] 36)) := ((Below.refl _ _).alloc (Nat.le_refl _) _).alloc (by simp) _
  have HX := Lib.hid hX
  have HP := Lib.hid hP
  have HB0 := Lib.hid hB0
  have d1 := (hB0.cell (p := ⟨bq, off + b, none⟩) hbq).trans hcu
  have d2 := (hB0.cell (p := ⟨bc, oc + b, none⟩) hbc).trans hcell
  have d3 := cellAlloc d1 (.cells #[] 45)
  have z1 : decide ((b : Int) < 0) = false := by simp
  have z2 : decide ((j : Int) < 0) = false := by simp
  have hown0 : (((w.alloc (.cells #[.int .i64 n, .slice (some ⟨bq, off, none⟩) bs.length cap] 24)).alloc (.cells #[.slice (some ⟨bc, oc, none⟩) bs.length cc, .int .i64 (W bs (allOf n)), .slice PA bs.length pc] 36)).alloc (.cells #[] 45)).ownsRow (w.heap.size + 2) 45 2 (.slice (some ⟨w.heap.size + 1 + 1, 0, none⟩) 0 0) 0 [] := by
    have h := own_empty ((w.alloc (.cells #[.int .i64 n, .slice (some ⟨bq, off, none⟩) bs.length cap] 24)).alloc (.cells #[.slice (some ⟨bc, oc, none⟩) bs.length cc, .int .i64 (W bs (allOf n)), .slice PA bs.length pc] 36)) (base := w.heap.size + 2) (by simp) 45 2
    simpa using h
  have HOWN0 := Lib.hid hown0
  clear hl hc hp hi hcells hvs hcs hu hol hcu hcell hX hP hB0 ho hlb hcb hcb' hvl hcap hown0
  go_enter Try.func34, Try.ntmps34
  go_wp2_with (
    at_builtin
    go_must (
      refine wpList_app _ rfl (.tmp 40) (.tmp 45) et_off rfl (w.heap.size + 2) (.slice (some ⟨w.heap.size + 1 + 1, 0, none⟩) 0 0) 0 [] rfl HOWN0.out R _ l.length (Off.all l) rfl ((HOL.out.grow HB0.out).1.alloc _) (Off.all_one l) (by omega) (by unfold maxLen; omega) (by simp) ?_
      intro A2 c2 w1 hown hg hloc
      rw [Nat.zero_add, List.nil_append] at hown
      rw [Nat.zero_add]
      obtain ⟨gA, ck, hform, hgA, hgA2⟩ := World.ownsRow.form hown (by omega)
      injection hform with hA _ hc2
      subst hA hc2
      have hB1 := (HB0.out.alloc (by simp; omega) (.cells #[] 45)).grown hg (by simp; omega) (fun g e => by simp [Value.ownBlock] at e; omega)
      have hX1 := (HX.out.alloc (.cells #[] 45)).grown hg (by simp [Value.ownBlock]; omega)
      have hP1 := (HP.out.alloc (.cells #[] 45)).grown hg (by simp [Value.ownBlock])
      have x0 : w1.cell? ⟨w.heap.size, 0, none⟩ = some (.int .i64 n) := hX1.cell 0
      have x1 : w1.cell? ⟨w.heap.size, 1, none⟩ = some (.slice (some ⟨bq, off, none⟩) bs.length cap) := hX1.cell 1
      have p0 : w1.cell? ⟨w.heap.size + 1, 0, none⟩ = some (.slice (some ⟨bc, oc, none⟩) bs.length cc) := hP1.cell 0
      have d4 := (hB1.cell (p := ⟨bc, oc + b, none⟩) hbc).trans HCE.out
      have hoc := hown.cellAt (j * 2 + 1) (by omega)
      rw [Off.all_snd l j o HO.out] at hoc
      have hof1 := hown.frozenAt (j * 2 + 1)
      have hst := (hown.stored (j * 2 + 1) (.int .i64 (o.c + more)))
      have hwr : IntKind.i64.wrap (o.c + more) = o.c + more := IntWalk.i64_in _ (by omega)
      have HST := Lib.hid hst.1
      have HB1 := Lib.hid hB1
      have HX1 := Lib.hid hX1
      have HP1 := Lib.hid hP1
      have HOW := Lib.hid hown
      clear hown hg hloc hst hB1 hX1 hP1 d1 d2 d3
      have x0' : (w1.setCell ⟨gA, j * 2 + 1, none⟩ (.int .i64 (o.c + more))).cell? ⟨w.heap.size, 0, none⟩ = some (.int .i64 n) := (HX1.out.far (p := ⟨gA, j * 2 + 1, none⟩) (by simp; omega) (.int .i64 (o.c + more))).cell 0
      have x1' : (w1.setCell ⟨gA, j * 2 + 1, none⟩ (.int .i64 (o.c + more))).cell? ⟨w.heap.size, 1, none⟩ = some (.slice (some ⟨bq, off, none⟩) bs.length cap) := (HX1.out.far (p := ⟨gA, j * 2 + 1, none⟩) (by simp; omega) (.int .i64 (o.c + more))).cell 1))
  have hoff : Offs (w1.setCell ⟨gA, j * 2 + 1, none⟩ (.int .i64 (o.c + more))) (fun _ => True) (.slice (some ⟨gA, 0, none⟩) l.length c2) (raiseL l j more) := by
    have h := HST.out
    rw [all_raise HO.out] at h
    refine ⟨by rw [raiseL_len]; exact (Sl.of_own h).mono fun _ _ _ => trivial, fun x hx => ?_⟩
    obtain ⟨i, hi⟩ := List.getElem?_of_mem hx
    rw [raiseL_get] at hi
    cases hl : l[i]? with
    | none => rw [hl] at hi; cases hi
    | some y =>
      rw [hl] at hi
      simp only [Option.map_some, Option.some.injEq] at hi
      have hy := HOL.out.2 y (List.mem_of_getElem? hl)
      split at hi
      · rename_i hij
        subst hij
        rw [HO.out] at hl
        have hl' := Option.some.inj hl
        subst hl'
        subst hi
        exact ⟨hy.1, by show -9223372036854775808 ≤ o.c + more; omega, by show o.c + more ≤ 9223372036854775807; omega⟩
      · subst hi
        exact hy
  have HOFF := Lib.hid hoff
  have HBS := Lib.hid (HB1.out.setCell (p := ⟨gA, j * 2 + 1, none⟩) (by simp; omega) (.int .i64 (o.c + more)))
  have hset := raise_set (more := more) (j := j) HLB.out
  have HSET := Lib.hid hset
  have hgc : (w1.setCell ⟨gA, j * 2 + 1, none⟩ (.int .i64 (o.c + more))).cell? ⟨gA, j * 2 + 1, none⟩ = some (.int .i64 (o.c + more)) := World.cell?_setCell_same' w1 ⟨gA, j * 2 + 1, none⟩ _ (by rw [hoc]; rfl)
  have HGC := Lib.hid hgc
  have hPs := HP1.out.far (p := ⟨gA, j * 2 + 1, none⟩) (by simp; omega) (.int .i64 (o.c + more))
  have HPs := Lib.hid hPs
  obtain ⟨u1, hu1⟩ : ∃ u, u = w1.setCell ⟨gA, j * 2 + 1, none⟩ (.int .i64 (o.c + more)) := ⟨_, rfl⟩
  rw [← hu1] at HOFF HBS HGC HPs ⊢
  clear hoff hset hgc x0 x1 p0 d4 hoc hof1 x0' x1' hPs hu1
  have hwin := withE_in (l := raiseL l j more) HI.out hb
  by_cases hce : checkE n (raiseL l j more) = 0
  · have hwz : withE n bs (b : Int) (raiseL l j more) = 0 := hwin.trans hce
    have hi' : instE n (raiseB bs b j more) = 0 := by rw [← HSET.out]; exact instE_set HI.out (by rw [raiseL_len]; exact hl8) hce
    obtain ⟨hr1, hr2, hr3⟩ := raise_costs (by omega) HI.out hi' HCB.out HLB.out HO.out
    have HR1 := Lib.hid hr1
    have HR2 := Lib.hid hr2
    have HR3 := Lib.hid hr3
    have HWZ := Lib.hid hwz
    have HI' := Lib.hid hi'
    have hlen2 : (raiseB bs b j more).length = bs.length := by simp [raiseB]
    have HLEN := Lib.hid hlen2
    clear hwin hce hwz hi' hr1 hr2 hr3 hlen2
    refine (with_ok n bs (b : Int) (raiseL l j more) _ _ R _ _ (HB.out.grow HBS.out) HOFF.out HWZ.out).mono ?_
    rintro e w2 ⟨A3, k3, rfl, hob, hb2⟩
    rw [Int.toNat_natCast, HSET.out] at hob
    have HOB := Lib.hid hob
    have HB2 := Lib.hid (HBS.out.trans (hb2.mono HBS.out.size))
    have HP2 := Lib.hid (HPs.out.grow hb2)
    clear hob hb2
    go_wp2_with (go_at_call 18; refine (num_any 0 (by decide) (by decide) _).mono ?_; rintro e w9 ⟨rfl, rfl⟩)
    have hcost := costs_ok n (raiseB bs b j more) (.slice A3 bs.length k3) _ (w2.alloc (.cells #[.int .i64 n, .slice A3 bs.length k3] 24)) (HOB.out.buys.alloc _) HI'.out
    refine hcost.mono ?_
    rw [HLEN.out]
    rintro e w3 ⟨CQ, cq, PQ, pq, rfl, hoc3, hop3, hb3⟩
    have hP3 := (HP2.out.alloc (.cells #[.int .i64 n, .slice A3 bs.length k3] 24)).grow hb3
    have hW0 := W_nonneg bs (allOf n)
    have hW1 : W bs (allOf n) ≤ 35184372088832 := by simpa using (okb_of (buys_wf HB.out) HI.out).1.W_le 0 (allOf n)
    have hwrp : IntKind.i64.wrap (W bs (allOf n) + more) = W bs (allOf n) + more := IntWalk.i64_in _ (by omega)
    have hBU := (HB2.out.alloc HB2.out.size (.cells #[.int .i64 n, .slice A3 bs.length k3] 24)).trans (hb3.mono (B' := w.heap.size) (by have := HB2.out.size; simp; omega))
    obtain ⟨b1, o1, y1, rfl, _, hy1, hcy1⟩ := (Sl.of_own hoc3).int_at hb
    rw [HR2.out] at hy1
    have hy1' := (Option.some.inj hy1).symm
    subst hy1'
    obtain ⟨b2, o2, y2, rfl, _, hy2, hcy2⟩ := (Sl.of_own hop3).int_at hb
    obtain ⟨b3, o3, y3, rfl, _, hy3, hcy3⟩ := (HPV.out.grow hBU).int_at hb
    rw [HR3.out, hy3] at hy2
    have hy2' := (Option.some.inj hy2).symm
    subst hy2'
    have s1 := cellAlloc hcy1 (.cells #[.slice (some ⟨b1, o1, none⟩) bs.length cq, .int .i64 (W (raiseB bs b j more) (allOf n)), .slice (some ⟨b2, o2, none⟩) bs.length pq] 36)
    have s2 := cellAlloc hcy2 (.cells #[.slice (some ⟨b1, o1, none⟩) bs.length cq, .int .i64 (W (raiseB bs b j more) (allOf n)), .slice (some ⟨b2, o2, none⟩) bs.length pq] 36)
    have s3 := cellAlloc hcy3 (.cells #[.slice (some ⟨b1, o1, none⟩) bs.length cq, .int .i64 (W (raiseB bs b j more) (allOf n)), .slice (some ⟨b2, o2, none⟩) bs.length pq] 36)
    rw [HR1.out] at s1 s2 s3 ⊢
    have hP4 := hP3.alloc (.cells #[.slice (some ⟨b1, o1, none⟩) bs.length cq, .int .i64 (W bs (allOf n) + more), .slice (some ⟨b2, o2, none⟩) bs.length pq] 36)
    have p1 := hP4.cell 1
    have p2 := hP4.cell 2
    have hBF := hBU.alloc hBU.size (.cells #[.slice (some ⟨b1, o1, none⟩) bs.length cq, .int .i64 (W bs (allOf n) + more), .slice (some ⟨b2, o2, none⟩) bs.length pq] 36)
    have HBF := Lib.hid hBF
    simp at p1 p2
    clear hP3 hP4 hBU hBF hoc3 hop3 hb3 hy1 hy2 hy3 hcy1 hcy2 hcy3 hcost
    go_wp2_with fail
    go_quiet ((go_at_call 18; exact quiet_left (num_any 0 (by decide) (by decide) _)))
    go_wp2_with fail
    go_ret
    exact ⟨rfl, below_drewN HBF.out _⟩
  · have hgt : 1099511627776 < o.c + more := by
      rcases Int.lt_or_le 1099511627776 (o.c + more) with h | h
      · exact h
      · exact absurd (checkE_raise ((instE_zero HI.out).2.2.2.2 l (List.mem_of_getElem? HLB.out)) HO.out (by omega) h) hce
    have hwz : withE n bs (b : Int) (raiseL l j more) ≠ 0 := by rw [hwin]; exact hce
    have hwb := withE_bd n bs (b : Int) (raiseL l j more)
    obtain ⟨we, hwe⟩ : ∃ we, we = withE n bs (b : Int) (raiseL l j more) := ⟨_, rfl⟩
    have HWZ := Lib.hid hwz
    have HWE := Lib.hid hwe
    rw [← hwe] at hwb hwz
    have hwb' : (we != 0) = true := by simpa using hwz
    obtain ⟨hwb1, hwb2⟩ := hwb
    clear hwin hce hwz hwe
    refine (with_err n bs (b : Int) (raiseL l j more) _ _ R _ _ (HB.out.grow HBS.out) HOFF.out HWZ.out).mono ?_
    rintro e w2 ⟨rfl, hb2⟩
    rw [← HWE.out]
    have hgc2 := (hb2.cell (p := ⟨gA, j * 2 + 1, none⟩) (World.block_lt_of_cell? _ _ HGC.out)).trans HGC.out
    have hgc3 := cellAlloc hgc2 (.cells #[.int .i64 0, .slice none 0 0] 24)
    have HB2 := Lib.hid (HBS.out.trans (hb2.mono HBS.out.size))
    clear hb2
    go_wp2_with (go_at_call 18; refine (num_any _ (by omega) (by omega) _).mono ?_; rintro e w9 ⟨rfl, rfl⟩)
    go_ret
    exact ⟨by first | rfl | simp [hgt], HB2.out.alloc HB2.out.size _⟩
end Go.Proofs.Ytcigobiolbojhaa.Vb

/- Secret bids; sealed.coins; who may not bid. -/
namespace Go.Proofs.Ytcigobiolbojhaa.Vb
open Go.RowKit

structure Sec where
  b : Int
  c : Int
def Sec.wf (s : Sec) : Prop := (-9223372036854775808 ≤ s.b ∧ s.b ≤ 9223372036854775807) ∧ -9223372036854775808 ≤ s.c ∧ s.c ≤ 9223372036854775807
def Sec.cells (s : Sec) : List Value := [.int .i64 s.b, .int .i64 s.c]
def Sec.all (l : List Sec) : List Value := l.flatMap Sec.cells
theorem Sec.all_length (l : List Sec) : (Sec.all l).length = l.length * 2 := by
  induction l with
  | nil => rfl
  | cons o l ih => simp only [Sec.all, List.flatMap_cons, List.length_append] at *; simp [Sec.cells, ih]; omega
theorem Sec.all_fst : ∀ (l : List Sec) (k : Nat) (o : Sec), l[k]? = some o → (Sec.all l)[k * 2]? = some (.int .i64 o.b)
  | [], k, o, h => by simp at h
  | x :: l, 0, o, h => by simp at h; subst h; rfl
  | x :: l, k + 1, o, h => by
    have := Sec.all_fst l k o (by simpa using h)
    simp only [Sec.all, List.flatMap_cons, Sec.cells] at *
    rw [show (k + 1) * 2 = k * 2 + 2 from by omega]
    simpa using this
theorem Sec.all_snd : ∀ (l : List Sec) (k : Nat) (o : Sec), l[k]? = some o → (Sec.all l)[k * 2 + 1]? = some (.int .i64 o.c)
  | [], k, o, h => by simp at h
  | x :: l, 0, o, h => by simp at h; subst h; rfl
  | x :: l, k + 1, o, h => by
    have := Sec.all_snd l k o (by simpa using h)
    simp only [Sec.all, List.flatMap_cons, Sec.cells] at *
    rw [show (k + 1) * 2 + 1 = k * 2 + 1 + 2 from by omega]
    simpa using this
theorem Sec.all_one (l : List Sec) : ∀ u ∈ Sec.all l, u.oneCell' = true := by
  intro u hu
  simp only [Sec.all, List.mem_flatMap] at hu
  obtain ⟨o, _, ho⟩ := hu
  simp [Sec.cells] at ho
  rcases ho with rfl | rfl <;> rfl
theorem Sec.all_app (l : List Sec) (s : Sec) : Sec.all l ++ [.int .i64 s.b, .int .i64 s.c] = Sec.all (l ++ [s]) := by simp [Sec.all, Sec.cells]

/-- The slice v reads as the bids l. -/
def Secs (w : World) (R : Nat → Prop) (v : Value) (l : List Sec) : Prop := Sl w R v l.length 2 (Sec.all l) ∧ ∀ o ∈ l, o.wf
theorem Secs.grow {w w' : World} {R : Nat → Prop} {v : Value} {l : List Sec} (h : Secs w R v l) (hb : Below w.heap.size w w') : Secs w' R v l := ⟨h.1.grow hb, h.2⟩
theorem Secs.alloc {w : World} {R : Nat → Prop} {v : Value} {l : List Sec} (h : Secs w R v l) (o : Obj) : Secs (w.alloc o) R v l := ⟨h.1.alloc o, h.2⟩

def coinB (x : Int) : Bool := decide (0 ≤ x) && decide (x ≤ 1099511627776)
theorem coinB_iff {x : Int} : coinB x = true ↔ 0 ≤ x ∧ x ≤ 1099511627776 := by simp [coinB]
set_option maxHeartbeats 400000 in
theorem coins_any (x : Int) (w : World) : Calls Try.prog 128 #[.int .i64 x] w fun e w' => e = .returned (.bool (coinB x)) ∧ w = w' := by
  by_cases h0 : 0 ≤ x
  · go_enter Try.func128, Try.ntmps128
    go_wp2
    go_ret
    exact ⟨by simp [coinB, h0], rfl⟩
  · go_enter Try.func128, Try.ntmps128
    go_wp2
    go_ret
    exact ⟨by simp [coinB]; omega, rfl⟩

def secBad (s : Sec) : Bool := decide (s.b < 0) || !coinB s.c
set_option maxHeartbeats 400000 in
theorem secBad_any (s : Sec) (w : World) : Calls Try.prog 127 #[.agg #[.int .i64 s.b, .int .i64 s.c]] w fun e w' => e = .returned (.bool (secBad s)) ∧ Below w.heap.size w w' := by
  obtain ⟨b, c⟩ := s
  by_cases h0 : b < 0
  · go_enter Try.func127, Try.ntmps127
    go_wp2
    go_ret
    exact ⟨by simp [secBad, h0], (Below.refl _ _).alloc (Nat.le_refl _) _⟩
  · go_enter Try.func127, Try.ntmps127
    go_wp2_with (go_at_call 128; refine (coins_any _ _).mono ?_; rintro e w1 ⟨rfl, rfl⟩)
    go_ret
    exact ⟨by simp [secBad]; intro h; omega, (Below.refl _ _).alloc (Nat.le_refl _) _⟩

/-- the first bid that may not be, from k on -/
def secAt : List Sec → Option Nat
  | [] => none
  | o :: l => if secBad o then some 0 else (secAt l).map (· + 1)
def secInt (l : List Sec) : Int := match secAt l with | some k => k | none => -1
theorem secAt_none : ∀ l : List Sec, (∀ o ∈ l, secBad o = false) → secAt l = none
  | [], _ => rfl
  | o :: l, h => by simp [secAt, h o (by simp), secAt_none l (fun x hx => h x (by simp [hx]))]
theorem secAt_some : ∀ (l : List Sec) (k : Nat) (o : Sec), l[k]? = some o → secBad o = true → (∀ j x, j < k → l[j]? = some x → secBad x = false) → secAt l = some k
  | [], k, o, h, _, _ => by simp at h
  | x :: l, 0, o, h, hb, _ => by simp at h; subst h; simp [secAt, hb]
  | x :: l, k + 1, o, h, hb, hn => by
    have h0 := hn 0 x (by omega) rfl
    have := secAt_some l k o (by simpa using h) hb (fun j y hj hy => hn (j + 1) y (by omega) (by simpa using hy))
    simp [secAt, h0, this]
theorem secInt_ge (l : List Sec) : decide (0 ≤ secInt l) = l.any secBad := by
  unfold secInt
  induction l with
  | nil => rfl
  | cons o l ih =>
    cases hb : secBad o with
    | true => simp [secAt, hb]
    | false =>
      simp only [secAt, hb, List.any_cons, Bool.false_or]
      rw [← ih]
      cases secAt l with
      | none => rfl
      | some k => simp; omega

set_option maxHeartbeats 400000 in
theorem indexSec_any (l : List Sec) (v : Value) (R : Nat → Prop) (w : World) (hl : Secs w R v l) :
    Calls Try.prog 139 #[v, .func (.func 127) #[] #[]] w fun e w' => e = .returned (.int .i64 (secInt l)) ∧ Below w.heap.size w w' := by
  obtain ⟨⟨_, A, cap, rfl, hncap, hcap, hcells⟩, hwf⟩ := hl
  unfold maxLen at hcap
  have HC := Lib.hid hcells
  have HW := Lib.hid hwf
  clear hcells hwf
  go_enter Try.func139, Try.ntmps139
  go_wp2
  go_loopw [8] (fun i wr => ∃ k : Nat, k ≤ l.length ∧ i = .int .i64 k ∧ Below w.heap.size w wr ∧ ∀ j x, j < k → l[j]? = some x → secBad x = false) (fun i _ => l.length - (intOf i).toNat)
  case atStart => exact ⟨0, Nat.zero_le _, rfl, Below.refl _ _, fun j x hj => by omega⟩
  case round =>
    obtain ⟨k, hk, rfl, hb, hno⟩ := hrel
    have HN := Lib.hid hno
    have HB := Lib.hid hb
    clear hno
    by_cases hlt : k < l.length
    · obtain ⟨bb, off, rfl, _, hbb, hcs⟩ := HC.out (by omega)
      obtain ⟨o, ho⟩ : ∃ o, l[k]? = some o := ⟨_, List.getElem?_eq_getElem hlt⟩
      have c0 : wr.cell? ⟨bb, off + k * 2, none⟩ = some (.int .i64 o.b) := (hb.cell hbb).trans (hcs _ _ (Sec.all_fst l k o ho))
      have c1 : wr.cell? ⟨bb, off + k * 2 + 1, none⟩ = some (.int .i64 o.c) := (hb.cell hbb).trans (hcs _ _ (Sec.all_snd l k o ho))
      have HO := Lib.hid ho
      clear hcs hb ho
      cases hbad : secBad o with
      | true =>
        have HBAD := Lib.hid hbad
        clear hbad
        go_wp2_with (go_at_call 127; refine (secBad_any o _).mono ?_; rintro e w1 ⟨rfl, hb1⟩; rw [HBAD.out]; have HB1 := Lib.hid hb1; clear hb1)
        go_ret
        refine ⟨ret_int ?_, HB.out.trans (HB1.out.mono HB.out.size)⟩
        unfold secInt
        rw [secAt_some l k o HO.out HBAD.out HN.out]
      | false =>
        have HBAD := Lib.hid hbad
        clear hbad
        go_wp2_with (go_at_call 127; refine (secBad_any o _).mono ?_; rintro e w1 ⟨rfl, hb1⟩; rw [HBAD.out]; have HB1 := Lib.hid hb1; clear hb1)
        go_roundw
        case rel =>
          refine ⟨k + 1, by omega, by go_num, HB.out.trans (HB1.out.mono HB.out.size), fun j x hj hx => ?_⟩
          by_cases hjk : j < k
          · exact HN.out j x hjk hx
          · obtain rfl : j = k := by omega
            rw [HO.out] at hx
            cases hx
            exact HBAD.out
        case measure => simp [intOf]; omega
    · clear hb
      go_wp2
      go_ret
      refine ⟨ret_int ?_, HB.out⟩
      unfold secInt
      rw [secAt_none l (fun o ho => ?_)]
      obtain ⟨j, hj, rfl⟩ := List.getElem_of_mem ho
      exact HN.out j _ (by omega) (List.getElem?_eq_getElem hj)

set_option maxHeartbeats 400000 in
theorem containsSec_any (l : List Sec) (v : Value) (R : Nat → Prop) (w : World) (hl : Secs w R v l) :
    Calls Try.prog 129 #[v, .func (.func 127) #[] #[]] w fun e w' => e = .returned (.bool (l.any secBad)) ∧ Below w.heap.size w w' := by
  have hg := secInt_ge l
  rw [← hg]
  clear hg
  go_enter Try.func129, Try.ntmps129
  go_wp2_with (go_at_call 139; refine (indexSec_any l v R _ hl).mono ?_; rintro e w1 ⟨rfl, hb1⟩; have HB1 := Lib.hid hb1; clear hb1)
  go_ret
  exact ⟨rfl, HB1.out⟩
end Go.Proofs.Ytcigobiolbojhaa.Vb

/- sealed.best, sealed.come. -/
namespace Go.Proofs.Ytcigobiolbojhaa.Vb
open Go.RowKit

def beats (a : Option (Nat × Int)) (c : Int) : Bool := match a with | none => true | some (_, c0) => decide (c0 < c)
def bstep (floor but : Int) (i : Nat) (s : Sec) (a : Option (Nat × Int)) : Option (Nat × Int) := if decide ((i : Int) ≠ but) && decide (floor ≤ s.c) && beats a s.c then some (i, s.c) else a
/-- the best of the first k bids: its place, its coins -/
def bestK (floor but : Int) (l : List Sec) : Nat → Option (Nat × Int)
  | 0 => none
  | k + 1 => match l[k]? with | some s => bstep floor but k s (bestK floor but l k) | none => bestK floor but l k
def atI (a : Option (Nat × Int)) : Int := match a with | none => -1 | some (j, _) => j
theorem bestK_succ {floor but : Int} {l : List Sec} {k : Nat} {s : Sec} (h : l[k]? = some s) : bestK floor but l (k + 1) = bstep floor but k s (bestK floor but l k) := by simp [bestK, h]
theorem bestK_get {floor but : Int} {l : List Sec} : ∀ {k j : Nat} {c : Int}, bestK floor but l k = some (j, c) → j < k ∧ ∃ s, l[j]? = some s ∧ s.c = c
  | 0, j, c, h => by simp [bestK] at h
  | k + 1, j, c, h => by
    simp only [bestK] at h
    cases hl : l[k]? with
    | none =>
      rw [hl] at h
      obtain ⟨h1, h2⟩ := bestK_get h
      exact ⟨by omega, h2⟩
    | some s =>
      rw [hl] at h
      simp only [bstep] at h
      split at h
      · simp only [Option.some.injEq, Prod.mk.injEq] at h
        obtain ⟨rfl, rfl⟩ := h
        exact ⟨by omega, s, hl, rfl⟩
      · obtain ⟨h1, h2⟩ := bestK_get h
        exact ⟨by omega, h2⟩

set_option maxRecDepth 100000 in
set_option maxHeartbeats 1600000 in
theorem best_any' (floor but : Int) (l : List Sec) (v : Value) (R : Nat → Prop) (w : World) (hl : Secs w R v l) :
    Calls Try.prog 150 #[.int .i64 floor, v, .int .i64 but] w fun e w' => e = .returned (.int .i64 (atI (bestK floor but l l.length))) ∧ Below w.heap.size w w' := by
  obtain ⟨⟨_, A, cap, rfl, hncap, hcap, hcells⟩, hwf⟩ := hl
  unfold maxLen at hcap
  have HC := Lib.hid hcells
  clear hcells hwf
  go_enter Try.func150, Try.ntmps150
  go_wp2_with fail
  go_loopw [7, 12] (fun a i wr => ∃ k : Nat, k ≤ l.length ∧ i = .int .i64 k ∧ a = .int .i64 (atI (bestK floor but l k)) ∧ Below w.heap.size w wr) (fun _ i _ => l.length - (intOf i).toNat)
  case atStart => exact ⟨0, Nat.zero_le _, rfl, rfl, Below.refl _ _⟩
  case round =>
    obtain ⟨k, hk, rfl, rfl, hb⟩ := hrel
    have HB := Lib.hid hb
    by_cases hlt : k < l.length
    · obtain ⟨bb, off, rfl, _, hbb, hcs⟩ := HC.out (by omega)
      obtain ⟨o, ho⟩ : ∃ o, l[k]? = some o := ⟨_, List.getElem?_eq_getElem hlt⟩
      have c0 : wr.cell? ⟨bb, off + k * 2, none⟩ = some (.int .i64 o.b) := (hb.cell hbb).trans (hcs _ _ (Sec.all_fst l k o ho))
      have c1 : wr.cell? ⟨bb, off + k * 2 + 1, none⟩ = some (.int .i64 o.c) := (hb.cell hbb).trans (hcs _ _ (Sec.all_snd l k o ho))
      have hsu := bestK_succ (floor := floor) (but := but) ho
      have HSU := Lib.hid hsu
      have e1 : (0 : Int) ≤ (k : Int) := by omega
      have e2 : (k : Int) < (l.length : Int) := by omega
      have hbl : ∀ q, Below w.heap.size w ((wr.alloc (.cells #[.int .i64 o.b, .int .i64 o.c] 148)).drewN q) := fun q => below_drewN (HB.out.alloc HB.out.size _) q
      have HBL := Lib.hid hbl
      clear hb ho hsu hbl
      by_cases hk1 : (k : Int) = but
      · have hn : bestK floor but l (k + 1) = bestK floor but l k := by rw [HSU.out, bstep]; simp [hk1]
        have HN := Lib.hid hn
        have hne : ((k : Int) != but) = false := by simpa using hk1
        have HK := Lib.hid hk1
        clear hn hk1 hcs
        go_wp2_with fail
        go_quiet (fail)
        go_wp2_with fail
        go_roundw
        case rel => exact ⟨k + 1, by omega, by go_num, by rw [HN.out], HBL.out _⟩
        case measure => simp [intOf]; omega
      · have hne : ((k : Int) != but) = true := by simpa using hk1
        have HK := Lib.hid hk1
        clear hk1
        by_cases hf : floor ≤ o.c
        · cases hbk : bestK floor but l k with
          | none =>
            have hn : bestK floor but l (k + 1) = some (k, o.c) := by rw [HSU.out, hbk, bstep]; simp [beats, hf]; intro h; exact absurd h HK.out
            have HN := Lib.hid hn
            have hat : atI none = -1 := rfl
            clear hn hcs hbk
            rw [hat]
            go_wp2_with fail
            go_quiet (fail)
            go_wp2_with fail
            go_roundw
            case rel => exact ⟨k + 1, by omega, by go_num, by rw [HN.out]; rfl, HBL.out _⟩
            case measure => simp [intOf]; omega
          | some p =>
            obtain ⟨j, c⟩ := p
            obtain ⟨hjk, s, hs, hsc⟩ := bestK_get hbk
            have d1 : wr.cell? ⟨bb, off + j * 2 + 1, none⟩ = some (.int .i64 c) := by rw [← hsc]; exact (HB.out.cell hbb).trans (hcs _ _ (Sec.all_snd l j s hs))
            have d2 := cellAlloc d1 (.cells #[.int .i64 o.b, .int .i64 o.c] 148)
            have hat : atI (some (j, c)) = (j : Int) := rfl
            have e3 : (0 : Int) ≤ (j : Int) := by omega
            have e4 : (j : Int) < (l.length : Int) := by omega
            rw [hat]
            by_cases hlt2 : c < o.c
            · have hn : bestK floor but l (k + 1) = some (k, o.c) := by rw [HSU.out, hbk, bstep]; simp [beats, hf, hlt2]; intro h; exact absurd h HK.out
              have HN := Lib.hid hn
              clear hn hcs hbk hs hsc hat
              go_wp2_with fail
              go_quiet (fail)
              go_wp2_with fail
              go_roundw
              case rel => exact ⟨k + 1, by omega, by go_num, by rw [HN.out]; rfl, HBL.out _⟩
              case measure => simp [intOf]; omega
            · have hn : bestK floor but l (k + 1) = some (j, c) := by rw [HSU.out, hbk, bstep]; simp [beats, hlt2]
              have HN := Lib.hid hn
              clear hn hcs hbk hs hsc hat
              go_wp2_with fail
              go_quiet (fail)
              go_wp2_with fail
              go_roundw
              case rel => exact ⟨k + 1, by omega, by go_num, by rw [HN.out]; rfl, HBL.out _⟩
              case measure => simp [intOf]; omega
        · have hn : bestK floor but l (k + 1) = bestK floor but l k := by rw [HSU.out, bstep]; simp [hf]
          have HN := Lib.hid hn
          have hfd : decide (floor ≤ o.c) = false := by simpa using hf
          clear hn hcs hf
          go_wp2_with fail
          go_quiet (fail)
          go_wp2_with fail
          go_roundw
          case rel => exact ⟨k + 1, by omega, by go_num, by rw [HN.out], HBL.out _⟩
          case measure => simp [intOf]; omega
    · obtain rfl : k = l.length := by omega
      clear hb
      go_wp2_with fail
      go_ret
      exact ⟨rfl, HB.out⟩
end Go.Proofs.Ytcigobiolbojhaa.Vb

/- sealed.come. -/
namespace Go.Proofs.Ytcigobiolbojhaa.Vb
open Go.RowKit

def nextC (floor : Int) (l : List Sec) (j : Nat) : Int := match bestK floor (j : Int) l l.length with | none => floor | some (_, c) => c
def soldVal (floor : Int) (l : List Sec) : Value := match bestK floor (-1) l l.length with
  | none => .agg #[.bool false, .int .i64 0, .int .i64 0, .int .i64 0]
  | some (j, c) => .agg #[.bool true, .int .i64 ((l[j]?.map (·.b)).getD 0), .int .i64 c, .int .i64 (nextC floor l j)]

set_option maxRecDepth 100000 in
set_option maxHeartbeats 1600000 in
theorem come_any (floor : Int) (l : List Sec) (v : Value) (R : Nat → Prop) (w : World) (hl : Secs w R v l) :
    Calls Try.prog 130 #[.int .i64 floor, v] w fun e w' => e = .returned (soldVal floor l) ∧ Below w.heap.size w w' := by
  have HL := Lib.hid hl
  obtain ⟨⟨_, A, cap, rfl, hncap, hcap, hcells⟩, _⟩ := hl
  unfold maxLen at hcap
  have HC := Lib.hid hcells
  clear hcells
  cases hbk : bestK floor (-1) l l.length with
  | none =>
    have hs : soldVal floor l = .agg #[.bool false, .int .i64 0, .int .i64 0, .int .i64 0] := by unfold soldVal; rw [hbk]
    have HS := Lib.hid hs
    have HBK := Lib.hid hbk
    clear hs hbk
    have hat : atI none = -1 := rfl
    go_enter Try.func130, Try.ntmps130
    go_wp2_with (go_at_call 150; refine (best_any' floor (-1) l _ R _ (HL.out.alloc _)).mono ?_; rintro e w1 ⟨rfl, hb1⟩; rw [HBK.out, hat]; have hk := (Blk.new w 150 #[.bool false, .int .i64 0, .int .i64 0, .int .i64 0]).grow hb1; have q0 := hk.cell 0; have q1 := hk.cell 1; have q2 := hk.cell 2; have q3 := hk.cell 3; have qf := hk.frozen; simp at q0 q1 q2 q3; have HK := Lib.hid hk; have HB1 := Lib.hid (((Below.refl _ _).alloc (Nat.le_refl _) _).trans (hb1.mono (B' := w.heap.size) (by simp))); clear hb1 hk)
    have hq := (((HK.out.set_ 0 (.bool false)).set_ 1 (.int .i64 0)).set_ 2 (.int .i64 0)).set_ 3 (.int .i64 0)
    have r0 := hq.cell 0
    have r1 := hq.cell 1
    have r2 := hq.cell 2
    have r3 := hq.cell 3
    simp at r0 r1 r2 r3
    rw [HS.out]
    refine bodyPost_ret (v := .agg #[.bool false, .int .i64 0, .int .i64 0, .int .i64 0]) (by simp [results, Try.results130, go_sem, r0, r1, r2, r3]) rfl ⟨rfl, ?_⟩
    exact (((HB1.out.setCell (p := ⟨w.heap.size, 0, none⟩) (by simp) _).setCell (p := ⟨w.heap.size, 1, none⟩) (by simp) _).setCell (p := ⟨w.heap.size, 2, none⟩) (by simp) _).setCell (p := ⟨w.heap.size, 3, none⟩) (by simp) _
  | some p =>
    obtain ⟨j, c⟩ := p
    obtain ⟨hj, s, hsj, hsc⟩ := bestK_get hbk
    have HBK := Lib.hid hbk
    have HSJ := Lib.hid hsj
    obtain ⟨bb, off, rfl, _, hbb, hcs⟩ := HC.out (by omega)
    have c0 : w.cell? ⟨bb, off + j * 2, none⟩ = some (.int .i64 s.b) := hcs _ _ (Sec.all_fst l j s hsj)
    have c1 : w.cell? ⟨bb, off + j * 2 + 1, none⟩ = some (.int .i64 c) := by rw [← hsc]; exact hcs _ _ (Sec.all_snd l j s hsj)
    have C0 := Lib.hid c0
    have C1 := Lib.hid c1
    have HSC := Lib.hid hsc
    have hat : atI (some (j, c)) = (j : Int) := rfl
    have e1 : (0 : Int) ≤ (j : Int) := by omega
    have e2 : (j : Int) < (l.length : Int) := by omega
    have HCS := Lib.hid hcs
    clear hbk hsj hsc c0 c1 hcs
    go_enter Try.func130, Try.ntmps130
    go_wp2_with (go_at_call 150; refine (best_any' floor (-1) l _ R _ (HL.out.alloc _)).mono ?_; rintro e w1 ⟨rfl, hb1⟩; rw [HBK.out, hat]; have hk := (Blk.new w 150 #[.bool false, .int .i64 0, .int .i64 0, .int .i64 0]).grow hb1; have hb := ((Below.refl w.heap.size w).alloc (Nat.le_refl _) (.cells #[.bool false, .int .i64 0, .int .i64 0, .int .i64 0] 150)).trans (hb1.mono (B' := w.heap.size) (by simp)); have c0 := (hb.cell (p := ⟨bb, off + j * 2, none⟩) hbb).trans C0.out; have c1 := (hb.cell (p := ⟨bb, off + j * 2 + 1, none⟩) hbb).trans C1.out; have HK := Lib.hid hk; have HB1 := Lib.hid hb; clear hb1 hk hb)
    have hbb1 : bb < w1.heap.size := Nat.lt_of_lt_of_le hbb HB1.out.size
    have hle1 := HB1.out.size
    have hkl := HK.out.lt
    refine wp_region_F (Below w1.heap.size w1) [13] (by kernel_rfl) ((Below.refl _ _).drew) (fun hS => ?_)
    refine wpAnyF_take (i := 0) (oi := { dst := some 14, op := Go.Op.move (Go.Operand.tmp 1), type := 116, pos := "sealed.go:30", after := #[], guard := none }) (v := ?_) rfl (by kernel_rfl) (by kernel_rfl) (by kernel_rfl) (by kernel_rfl) (fun _ _ _ h => h) (Or.inl ⟨by rfl, ?_⟩) hS ?_
    rotate_left
    · intro w' hSw; have q1 := (hSw.cell (p := ⟨bb, off + j * 2, none⟩) hbb1).trans c0; have q2 := (hSw.cell (p := ⟨bb, off + j * 2 + 1, none⟩) hbb1).trans c1; go_simp; try with_reducible rfl
    try simp only [Act.put, List.setIfInBounds_toArray, List.set_cons_zero, List.set_cons_succ]
    refine wpAnyF_take (i := 1) (oi := { dst := some 15, op := Go.Op.move (Go.Operand.tmp 5), type := 3, pos := "sealed.go:30", after := #[], guard := none }) (v := ?_) rfl (by kernel_rfl) (by kernel_rfl) (by kernel_rfl) (by kernel_rfl) (fun _ _ _ h => h) (Or.inl ⟨by rfl, ?_⟩) hS ?_
    rotate_left
    · intro w' hSw; have q1 := (hSw.cell (p := ⟨bb, off + j * 2, none⟩) hbb1).trans c0; have q2 := (hSw.cell (p := ⟨bb, off + j * 2 + 1, none⟩) hbb1).trans c1; go_simp; try with_reducible rfl
    try simp only [Act.put, List.setIfInBounds_toArray, List.set_cons_zero, List.set_cons_succ]
    refine wpAnyF_take (i := 2) (oi := { dst := some 16, op := Go.Op.indexAddr 116 (Go.Operand.tmp 14) (Go.Operand.tmp 15), type := 0, pos := "sealed.go:30", after := #[{ on := 0, ground := Go.Ground.data }, { on := 1, ground := Go.Ground.data }], guard := none }) (v := ?_) rfl (by kernel_rfl) (by kernel_rfl) (by kernel_rfl) (by kernel_rfl) (fun _ _ _ h => h) (Or.inl ⟨by rfl, ?_⟩) hS ?_
    rotate_left
    · intro w' hSw; have q1 := (hSw.cell (p := ⟨bb, off + j * 2, none⟩) hbb1).trans c0; have q2 := (hSw.cell (p := ⟨bb, off + j * 2 + 1, none⟩) hbb1).trans c1; go_simp; try with_reducible rfl
    try simp only [Act.put, List.setIfInBounds_toArray, List.set_cons_zero, List.set_cons_succ]
    refine wpAnyF_take (i := 3) (oi := { dst := some 17, op := Go.Op.fieldAddr 148 (Go.Operand.tmp 16) 0, type := 0, pos := "sealed.go:30", after := #[{ on := 2, ground := Go.Ground.data }], guard := none }) (v := ?_) rfl (by kernel_rfl) (by kernel_rfl) (by kernel_rfl) (by kernel_rfl) (fun _ _ _ h => h) (Or.inl ⟨by rfl, ?_⟩) hS ?_
    rotate_left
    · intro w' hSw; have q1 := (hSw.cell (p := ⟨bb, off + j * 2, none⟩) hbb1).trans c0; have q2 := (hSw.cell (p := ⟨bb, off + j * 2 + 1, none⟩) hbb1).trans c1; go_simp; try with_reducible rfl
    try simp only [Act.put, List.setIfInBounds_toArray, List.set_cons_zero, List.set_cons_succ]
    refine wpAnyF_take (i := 4) (oi := { dst := some 18, op := Go.Op.load 3 (Go.Operand.tmp 17), type := 3, pos := "sealed.go:30", after := #[{ on := 3, ground := Go.Ground.data }], guard := none }) (v := ?_) rfl (by kernel_rfl) (by kernel_rfl) (by kernel_rfl) (by kernel_rfl) (fun _ _ _ h => h) (Or.inl ⟨by rfl, ?_⟩) hS ?_
    rotate_left
    · intro w' hSw; have q1 := (hSw.cell (p := ⟨bb, off + j * 2, none⟩) hbb1).trans c0; have q2 := (hSw.cell (p := ⟨bb, off + j * 2 + 1, none⟩) hbb1).trans c1; go_simp; try with_reducible rfl
    try simp only [Act.put, List.setIfInBounds_toArray, List.set_cons_zero, List.set_cons_succ]
    refine wpAnyF_take (i := 5) (oi := { dst := some 19, op := Go.Op.move (Go.Operand.tmp 1), type := 116, pos := "sealed.go:30", after := #[], guard := none }) (v := ?_) rfl (by kernel_rfl) (by kernel_rfl) (by kernel_rfl) (by kernel_rfl) (fun _ _ _ h => h) (Or.inl ⟨by rfl, ?_⟩) hS ?_
    rotate_left
    · intro w' hSw; have q1 := (hSw.cell (p := ⟨bb, off + j * 2, none⟩) hbb1).trans c0; have q2 := (hSw.cell (p := ⟨bb, off + j * 2 + 1, none⟩) hbb1).trans c1; go_simp; try with_reducible rfl
    try simp only [Act.put, List.setIfInBounds_toArray, List.set_cons_zero, List.set_cons_succ]
    refine wpAnyF_take (i := 6) (oi := { dst := some 20, op := Go.Op.move (Go.Operand.tmp 5), type := 3, pos := "sealed.go:30", after := #[], guard := none }) (v := ?_) rfl (by kernel_rfl) (by kernel_rfl) (by kernel_rfl) (by kernel_rfl) (fun _ _ _ h => h) (Or.inl ⟨by rfl, ?_⟩) hS ?_
    rotate_left
    · intro w' hSw; have q1 := (hSw.cell (p := ⟨bb, off + j * 2, none⟩) hbb1).trans c0; have q2 := (hSw.cell (p := ⟨bb, off + j * 2 + 1, none⟩) hbb1).trans c1; go_simp; try with_reducible rfl
    try simp only [Act.put, List.setIfInBounds_toArray, List.set_cons_zero, List.set_cons_succ]
    refine wpAnyF_take (i := 7) (oi := { dst := some 21, op := Go.Op.indexAddr 116 (Go.Operand.tmp 19) (Go.Operand.tmp 20), type := 0, pos := "sealed.go:30", after := #[{ on := 5, ground := Go.Ground.data }, { on := 6, ground := Go.Ground.data }], guard := none }) (v := ?_) rfl (by kernel_rfl) (by kernel_rfl) (by kernel_rfl) (by kernel_rfl) (fun _ _ _ h => h) (Or.inl ⟨by rfl, ?_⟩) hS ?_
    rotate_left
    · intro w' hSw; have q1 := (hSw.cell (p := ⟨bb, off + j * 2, none⟩) hbb1).trans c0; have q2 := (hSw.cell (p := ⟨bb, off + j * 2 + 1, none⟩) hbb1).trans c1; go_simp; try with_reducible rfl
    try simp only [Act.put, List.setIfInBounds_toArray, List.set_cons_zero, List.set_cons_succ]
    refine wpAnyF_take (i := 8) (oi := { dst := some 22, op := Go.Op.fieldAddr 148 (Go.Operand.tmp 21) 1, type := 0, pos := "sealed.go:30", after := #[{ on := 7, ground := Go.Ground.data }], guard := none }) (v := ?_) rfl (by kernel_rfl) (by kernel_rfl) (by kernel_rfl) (by kernel_rfl) (fun _ _ _ h => h) (Or.inl ⟨by rfl, ?_⟩) hS ?_
    rotate_left
    · intro w' hSw; have q1 := (hSw.cell (p := ⟨bb, off + j * 2, none⟩) hbb1).trans c0; have q2 := (hSw.cell (p := ⟨bb, off + j * 2 + 1, none⟩) hbb1).trans c1; go_simp; try with_reducible rfl
    try simp only [Act.put, List.setIfInBounds_toArray, List.set_cons_zero, List.set_cons_succ]
    refine wpAnyF_take (i := 9) (oi := { dst := some 23, op := Go.Op.load 2 (Go.Operand.tmp 22), type := 2, pos := "sealed.go:30", after := #[{ on := 8, ground := Go.Ground.data }], guard := none }) (v := ?_) rfl (by kernel_rfl) (by kernel_rfl) (by kernel_rfl) (by kernel_rfl) (fun _ _ _ h => h) (Or.inl ⟨by rfl, ?_⟩) hS ?_
    rotate_left
    · intro w' hSw; have q1 := (hSw.cell (p := ⟨bb, off + j * 2, none⟩) hbb1).trans c0; have q2 := (hSw.cell (p := ⟨bb, off + j * 2 + 1, none⟩) hbb1).trans c1; go_simp; try with_reducible rfl
    try simp only [Act.put, List.setIfInBounds_toArray, List.set_cons_zero, List.set_cons_succ]
    refine wpAnyF_take (i := 10) (oi := { dst := some 24, op := Go.Op.move (Go.Operand.tmp 0), type := 2, pos := "sealed.go:30", after := #[], guard := none }) (v := ?_) rfl (by kernel_rfl) (by kernel_rfl) (by kernel_rfl) (by kernel_rfl) (fun _ _ _ h => h) (Or.inl ⟨by rfl, ?_⟩) hS ?_
    rotate_left
    · intro w' hSw; have q1 := (hSw.cell (p := ⟨bb, off + j * 2, none⟩) hbb1).trans c0; have q2 := (hSw.cell (p := ⟨bb, off + j * 2 + 1, none⟩) hbb1).trans c1; go_simp; try with_reducible rfl
    try simp only [Act.put, List.setIfInBounds_toArray, List.set_cons_zero, List.set_cons_succ]
    refine wpAnyF_take (i := 11) (oi := { dst := some 25, op := Go.Op.build 150 #[(0, Go.Operand.const (Go.Value.bool true)), (1, Go.Operand.tmp 18), (2, Go.Operand.tmp 23), (3, Go.Operand.tmp 24)], type := 150, pos := "sealed.go:30", after := #[{ on := 4, ground := Go.Ground.data }, { on := 9, ground := Go.Ground.data }, { on := 10, ground := Go.Ground.data }], guard := none }) (v := ?_) rfl (by kernel_rfl) (by kernel_rfl) (by kernel_rfl) (by kernel_rfl) (fun _ _ _ h => h) (Or.inl ⟨by rfl, ?_⟩) hS ?_
    rotate_left
    · intro w' hSw; have q1 := (hSw.cell (p := ⟨bb, off + j * 2, none⟩) hbb1).trans c0; have q2 := (hSw.cell (p := ⟨bb, off + j * 2 + 1, none⟩) hbb1).trans c1; go_simp; try with_reducible rfl
    try simp only [Act.put, List.setIfInBounds_toArray, List.set_cons_zero, List.set_cons_succ]
    refine wpAnyF_ready (rs := [12]) (by kernel_rfl) (by simp) ?_
    refine AllReadyF.cons (o := { dst := some 6, op := Go.Op.alloc 150, type := 0, pos := "sealed.go:30", after := #[], guard := none }) rfl (by rfl) (fun K hK => ?_) ?_
    · go_simp
      refine hK.out _ _ ?_ (fun hS => ?_)
      · exact hS.alloc hS.size _
      clear hK K
      try simp only [Act.put, List.setIfInBounds_toArray, List.set_cons_zero, List.set_cons_succ]
      refine wpAnyF_ready (rs := [13]) (by kernel_rfl) (by simp) ?_
      refine AllReadyF.fin (o := { dst := none, op := Go.Op.store 150 (Go.Operand.tmp 6) (Go.Operand.tmp 25), type := 0, pos := "sealed.go:30", after := #[{ on := 12, ground := Go.Ground.data }, { on := 11, ground := Go.Ground.data }, { on := 0, ground := Go.Ground.phase }, { on := 1, ground := Go.Ground.phase }, { on := 2, ground := Go.Ground.phase }, { on := 3, ground := Go.Ground.phase }, { on := 4, ground := Go.Ground.phase }, { on := 5, ground := Go.Ground.phase }, { on := 6, ground := Go.Ground.phase }, { on := 7, ground := Go.Ground.phase }, { on := 8, ground := Go.Ground.phase }, { on := 9, ground := Go.Ground.phase }, { on := 10, ground := Go.Ground.phase }, { on := 11, ground := Go.Ground.phase }, { on := 12, ground := Go.Ground.phase }], guard := none }) rfl (by rfl) (fun K hK => ?_) ?_
      · go_simp
        refine hK.out _ _ ?_
        clear hK K
        try simp only [Act.put, List.setIfInBounds_toArray, List.set_cons_zero, List.set_cons_succ]
        refine wpAnyF_done (by kernel_rfl) ?_ _
        go_wp2_with fail
        refine (best_any' floor (j : Int) l _ R _ (HL.out.grow (HB1.out.trans (((Below.refl w1.heap.size w1).alloc (Nat.le_refl _) (.cells #[.bool true, .int .i64 s.b, .int .i64 c, .int .i64 floor] 150)).drew.mono (B' := w.heap.size) hle1)))).mono ?_
        rintro e w2 ⟨rfl, hb2⟩
        have hb2' := hb2.mono (B' := w1.heap.size + 1) (by simp)
        have hR := HK.out.grow (((Below.refl w1.heap.size w1).alloc (Nat.le_refl _) (.cells #[.bool true, .int .i64 s.b, .int .i64 c, .int .i64 floor] 150)).drew.trans (hb2'.mono (by omega)))
        have hN : Blk w2 w1.heap.size 150 #[.bool true, .int .i64 s.b, .int .i64 c, .int .i64 floor] := (Blk.new w1 150 #[.bool true, .int .i64 s.b, .int .i64 c, .int .i64 floor]).drew.below hb2' (by omega)
        have hB2 := (HB1.out.alloc hle1 (.cells #[.bool true, .int .i64 s.b, .int .i64 c, .int .i64 floor] 150)).drew.trans (hb2'.mono (B' := w.heap.size) (by omega))
        have hval : soldVal floor l = .agg #[.bool true, .int .i64 s.b, .int .i64 c, .int .i64 (nextC floor l j)] := by
          unfold soldVal
          rw [HBK.out]
          simp only [HSJ.out, Option.map_some, Option.getD_some]
        have HVAL := Lib.hid hval
        have HR := Lib.hid hR
        have HN := Lib.hid hN
        have HB2 := Lib.hid hB2
        clear hb2 hb2' hR hN hB2 hval hS
        cases hbk2 : bestK floor (j : Int) l l.length with
        | none =>
          have hnx : nextC floor l j = floor := by unfold nextC; rw [hbk2]
          have HNX := Lib.hid hnx
          have n0 := HN.out.cell 0
          have n1 := HN.out.cell 1
          have n2 := HN.out.cell 2
          have n3 := HN.out.cell 3
          have r0 := HR.out.cell 0
          have r1 := HR.out.cell 1
          have r2 := HR.out.cell 2
          have r3 := HR.out.cell 3
          have rf := HR.out.frozen
          have hq := (((HR.out.set_ 0 (.bool true)).set_ 1 (.int .i64 s.b)).set_ 2 (.int .i64 c)).set_ 3 (.int .i64 floor)
          have s0 := hq.cell 0
          have s1 := hq.cell 1
          have s2 := hq.cell 2
          have s3 := hq.cell 3
          simp at n0 n1 n2 n3 r0 r1 r2 r3 s0 s1 s2 s3
          have hat2 : atI none = -1 := rfl
          rw [hat2]
          clear hbk2 hnx hq
          go_wp2_with fail
          rw [HVAL.out, HNX.out]
          refine bodyPost_ret (v := .agg #[.bool true, .int .i64 s.b, .int .i64 c, .int .i64 floor]) (by simp [results, Try.results130, go_sem, s0, s1, s2, s3]) rfl ⟨rfl, ?_⟩
          exact (((HB2.out.setCell (p := ⟨w.heap.size, 0, none⟩) (by simp) _).setCell (p := ⟨w.heap.size, 1, none⟩) (by simp) _).setCell (p := ⟨w.heap.size, 2, none⟩) (by simp) _).setCell (p := ⟨w.heap.size, 3, none⟩) (by simp) _
        | some p2 =>
          obtain ⟨j2, c2⟩ := p2
          obtain ⟨hj2, s2, hsj2, hsc2⟩ := bestK_get hbk2
          have hnx : nextC floor l j = c2 := by unfold nextC; rw [hbk2]
          have HNX := Lib.hid hnx
          have hat2 : atI (some (j2, c2)) = (j2 : Int) := rfl
          have e3 : (0 : Int) ≤ (j2 : Int) := by omega
          have e4 : (j2 : Int) < (l.length : Int) := by omega
          have d1 : w2.cell? ⟨bb, off + j2 * 2 + 1, none⟩ = some (.int .i64 c2) := by rw [← hsc2]; exact (HB2.out.cell (p := ⟨bb, off + j2 * 2 + 1, none⟩) hbb).trans (HCS.out _ _ (Sec.all_snd l j2 s2 hsj2))
          have n3 : w2.cell? ⟨w1.heap.size, 3, none⟩ = some (.int .i64 floor) := HN.out.cell 3
          have nf : w2.frozen? ⟨w1.heap.size, 3, none⟩ = false := HN.out.frozen 3
          have hN3 := HN.out.set_ 3 (.int .i64 c2)
          have hR3 := HR.out.far (p := ⟨w1.heap.size, 3, none⟩) (show w.heap.size ≠ w1.heap.size by omega) (.int .i64 c2)
          have m0 := hN3.cell 0
          have m1 := hN3.cell 1
          have m2 := hN3.cell 2
          have m3 := hN3.cell 3
          have r0 := hR3.cell 0
          have r1 := hR3.cell 1
          have r2 := hR3.cell 2
          have r3 := hR3.cell 3
          have rf := hR3.frozen
          have hq := (((hR3.set_ 0 (.bool true)).set_ 1 (.int .i64 s.b)).set_ 2 (.int .i64 c)).set_ 3 (.int .i64 c2)
          have s0 := hq.cell 0
          have s1 := hq.cell 1
          have s2' := hq.cell 2
          have s3 := hq.cell 3
          simp at m0 m1 m2 m3 r0 r1 r2 r3 s0 s1 s2' s3
          rw [hat2]
          clear hbk2 hnx hq hN3 hR3 hsj2 hsc2 hat2
          go_wp2_with fail
          rw [HVAL.out, HNX.out]
          refine bodyPost_ret (v := .agg #[.bool true, .int .i64 s.b, .int .i64 c, .int .i64 c2]) (by simp [results, Try.results130, go_sem, s0, s1, s2', s3]) rfl ⟨rfl, ?_⟩
          exact ((((HB2.out.setCell (p := ⟨w1.heap.size, 3, none⟩) hle1 _).setCell (p := ⟨w.heap.size, 0, none⟩) (by simp) _).setCell (p := ⟨w.heap.size, 1, none⟩) (by simp) _).setCell (p := ⟨w.heap.size, 2, none⟩) (by simp) _).setCell (p := ⟨w.heap.size, 3, none⟩) (by simp) _
      exact AllReadyF.nil
    exact AllReadyF.nil
end Go.Proofs.Ytcigobiolbojhaa.Vb

/- A map of ints to ints, of the call's own, as a function. -/
namespace Go.Proofs.Ytcigobiolbojhaa.Vb
open Go.RowKit
open Go.Maps (Keyed)

def MapI (P : Program) (kt et : TypeId) (w : World) (b n : Nat) (F : Int → Option Int) : Prop :=
  ∃ D : DataW Unit, Maps.IsMap D ∧ w.ownsMap P kt (plainElem P et) b n D ∧ ∀ x z, D.atKey (.int .i64 x) z = match F x with | some v => .lit (.int .i64 v) | none => z

section
variable {P : Program} {kt et t : TypeId} {w w' : World} {b n : Nat} {F : Int → Option Int}
theorem MapI.lt (h : MapI P kt et w b n F) : b < w.heap.size := let ⟨_, _, h2, _⟩ := h; h2.lt
theorem MapI.made (w : World) : MapI P kt et (w.alloc (.map #[] 0)) w.heap.size 0 (fun _ => none) :=
  ⟨.map [], Maps.isMap_empty, World.ownsMap_made w P kt _, fun x z => by simp [DataW.atKey]⟩
theorem MapI.grown {row : Option Nat} (h : MapI P kt et w b n F) (hg : w.grownBy w' row) (hne : some b ≠ row) : MapI P kt et w' b n F :=
  let ⟨D, h1, h2, h3⟩ := h; ⟨D, h1, h2.kept hg hne, h3⟩
theorem MapI.grow (h : MapI P kt et w b n F) (hb : Below w.heap.size w w') : MapI P kt et w' b n F := h.grown (grownBy_of_below hb none) (by simp)
theorem MapI.alloc (h : MapI P kt et w b n F) (o : Obj) : MapI P kt et (w.alloc o) b n F := let ⟨D, h1, h2, h3⟩ := h; ⟨D, h1, h2.alloc o, h3⟩
theorem MapI.setCell (h : MapI P kt et w b n F) {p : Addr} (hne : b ≠ p.block) (u : Value) : MapI P kt et (w.setCell p u) b n F := h.grown (grownBy_setCell w p u) (by simpa using hne)
theorem MapI.not_cells (h : MapI P kt et w b n F) {p : Addr} {v : Value} (hc : w.cell? p = some v) : p.block ≠ b := by
  rintro rfl
  obtain ⟨D, _, ⟨es, clock, h1, _⟩, _⟩ := h
  simp [World.cell?, h1] at hc
theorem MapI.look (h : MapI P kt et w b n F) (K : Keyed P kt) (ht : P.underlying t = some (.map kt et)) (hk : P.underlying kt = some (.int .i64)) (he : P.underlying et = some (.int .i64)) (hz : (zeroValue et).run P w = .ok (.int .i64 0) w) {x : Int} (hx : (Lit.int .i64 x).wf = true) :
    (Instr.lookup t (.map (some b)) (.int .i64 x) false).run P w = .ok (.int .i64 ((F x).getD 0)) w := by
  obtain ⟨D, h1, h2, h3⟩ := h
  obtain ⟨c, hrun, hat, _⟩ := h2.lookup_int K ht he hz (Maps.keyOf_int_mk hk hx)
  rw [hrun]
  rw [h3 x] at hat
  cases hF : F x with
  | none => rw [hF] at hat; simp at hat; rw [← hat]; rfl
  | some v => rw [hF] at hat; simp at hat; rw [← hat]; rfl
theorem MapI.store (h : MapI P kt et w b n F) (K : Keyed P kt) (ht : P.underlying t = some (.map kt et)) (hk : P.underlying kt = some (.int .i64)) (he : P.underlying et = some (.int .i64)) (hn : n < maxLen) {x v : Int} (hx : (Lit.int .i64 x).wf = true) (hv : (Lit.int .i64 v).wf = true) :
    ∃ w', (Instr.mapUpdate t (.map (some b)) (.int .i64 x) (.int .i64 v)).run P w = .ok () w' ∧ MapI P kt et w' b (n + 1) (fun y => if y = x then some v else F y) ∧ w.grownBy w' (some b) := by
  obtain ⟨D, h1, h2, h3⟩ := h
  obtain ⟨w', hrun, h4, h5⟩ := h2.update K ht hn (Maps.keyOf_int_mk hk hx) (plainElem_int he hv)
  refine ⟨w', hrun, ⟨_, h1.put _ _, h4, fun y z => ?_⟩, h5⟩
  by_cases hy : y = x
  · subst hy
    rw [Maps.atKey_put_same h1 (show WideAt.IsKeyLit (.int .i64 y) from trivial)]
    simp
  · rw [Maps.atKey_put_other (fun e => hy (by injection e)), h3]
    simp [hy]
end
theorem int_keyed' : Keyed Try.prog 3 := Maps.int_keyed Try.underlying3
end Go.Proofs.Ytcigobiolbojhaa.Vb

/- sealed.Sell. -/
namespace Go.Proofs.Ytcigobiolbojhaa.Vb
open Go.RowKit

def sellBad (floor : Int) (l : List Sec) : Bool := !coinB floor || l.any secBad
instance (l : List Int) : Decidable l.Nodup := inferInstance
def sellE (floor : Int) (l : List Sec) : Int := if sellBad floor l = true then 2 else if (l.map (·.b)).Nodup then 0 else 5
def sellV (floor : Int) (l : List Sec) : Value := if sellE floor l = 0 then soldVal floor l else .agg #[.bool false, .int .i64 0, .int .i64 0, .int .i64 0]

theorem soldVal_form (floor : Int) (l : List Sec) : ∃ (b : Bool) (x y z : Int), soldVal floor l = .agg #[.bool b, .int .i64 x, .int .i64 y, .int .i64 z] := by
  unfold soldVal
  split
  · exact ⟨_, _, _, _, rfl⟩
  · exact ⟨_, _, _, _, rfl⟩

/-- how often each bidder was seen among the first k, where none came twice -/
def seenF (l : List Sec) (k : Nat) : Int → Option Int := fun x => if x ∈ (l.take k).map (·.b) then some 1 else none
theorem take_snocS {l : List Sec} {k : Nat} {s : Sec} (h : l[k]? = some s) : (l.take (k + 1)).map (·.b) = (l.take k).map (·.b) ++ [s.b] := by
  rw [List.take_add_one, h]; simp

set_option maxRecDepth 100000 in
set_option maxHeartbeats 3200000 in
theorem sell_any (floor : Int) (l : List Sec) (v : Value) (R : Nat → Prop) (w : World) (hl : Secs w R v l) :
    Calls Try.prog 91 #[.int .i64 floor, v] w fun e w' => e = .returned (.tuple #[sellV floor l, .int .i64 (sellE floor l)]) ∧ Below w.heap.size w w' := by
  have HL := Lib.hid hl
  obtain ⟨⟨_, A, cap, rfl, hncap, hcap, hcells⟩, hwf⟩ := hl
  unfold maxLen at hcap
  have HC := Lib.hid hcells
  have HWF := Lib.hid hwf
  have hk0 := Blk.new w 150 #[.bool false, .int .i64 0, .int .i64 0, .int .i64 0]
  have HK0 := Lib.hid hk0
  clear hcells hwf hk0
  cases hbad : sellBad floor l with
  | true =>
    have hE : sellE floor l = 2 := by unfold sellE; rw [if_pos hbad]
    have hV : sellV floor l = .agg #[.bool false, .int .i64 0, .int .i64 0, .int .i64 0] := by unfold sellV; rw [hE, if_neg (by decide)]
    have HE := Lib.hid hE
    have HV := Lib.hid hV
    cases hcf : coinB floor with
    | false =>
      have HCF := Lib.hid hcf
      have hq := (((HK0.out.set_ 0 (.bool false)).set_ 1 (.int .i64 0)).set_ 2 (.int .i64 0)).set_ 3 (.int .i64 0)
      have r0 := hq.cell 0
      have r1 := hq.cell 1
      have r2 := hq.cell 2
      have r3 := hq.cell 3
      simp at r0 r1 r2 r3
      clear hE hV hbad hcf hq
      go_enter Try.func91, Try.ntmps91
      go_wp2_with (go_at_call 128; refine (coins_any floor _).mono ?_; rintro e w1 ⟨rfl, rfl⟩; rw [HCF.out])
      rw [HE.out, HV.out]
      refine bodyPost_ret (v := .tuple #[.agg #[.bool false, .int .i64 0, .int .i64 0, .int .i64 0], .int .i64 2]) (by simp [results, Try.results91, go_sem]) rfl ⟨rfl, ?_⟩
      exact (Below.refl w.heap.size w).alloc (Nat.le_refl _) _
    | true =>
      have hany : l.any secBad = true := by simpa [sellBad, hcf] using hbad
      have HCF := Lib.hid hcf
      have HANY := Lib.hid hany
      clear hE hV hbad hcf hany
      go_enter Try.func91, Try.ntmps91
      go_wp2_with (first
        | (go_at_call 128; refine (coins_any floor _).mono ?_; rintro e w1 ⟨rfl, rfl⟩; rw [HCF.out])
        | (go_at_call 129; refine (containsSec_any l _ R _ (HL.out.alloc _)).mono ?_; rintro e w1 ⟨rfl, hb1⟩; rw [HANY.out]; have hk := HK0.out.grow hb1; have q0 := hk.cell 0; have q1 := hk.cell 1; have q2 := hk.cell 2; have q3 := hk.cell 3; have qf := hk.frozen; simp at q0 q1 q2 q3; have HK := Lib.hid hk; have HB1 := Lib.hid (((Below.refl _ _).alloc (Nat.le_refl _) _).trans (hb1.mono (B' := w.heap.size) (by simp))); clear hb1 hk))
      have hq := (((HK.out.set_ 0 (.bool false)).set_ 1 (.int .i64 0)).set_ 2 (.int .i64 0)).set_ 3 (.int .i64 0)
      have r0 := hq.cell 0
      have r1 := hq.cell 1
      have r2 := hq.cell 2
      have r3 := hq.cell 3
      simp at r0 r1 r2 r3
      rw [HE.out, HV.out]
      refine bodyPost_ret (v := .tuple #[.agg #[.bool false, .int .i64 0, .int .i64 0, .int .i64 0], .int .i64 2]) (by simp [results, Try.results91, go_sem, r0, r1, r2, r3]) rfl ⟨rfl, ?_⟩
      exact (((HB1.out.setCell (p := ⟨w.heap.size, 0, none⟩) (by simp) _).setCell (p := ⟨w.heap.size, 1, none⟩) (by simp) _).setCell (p := ⟨w.heap.size, 2, none⟩) (by simp) _).setCell (p := ⟨w.heap.size, 3, none⟩) (by simp) _
  | false =>
    have hcf : coinB floor = true := by
      cases h : coinB floor with
      | true => rfl
      | false => simp [sellBad, h] at hbad
    have hany : l.any secBad = false := by simpa [sellBad, hcf] using hbad
    have hE : sellE floor l = if (l.map (·.b)).Nodup then 0 else 5 := by unfold sellE; rw [if_neg (by rw [hbad]; decide)]
    have HCF := Lib.hid hcf
    have HANY := Lib.hid hany
    have HE := Lib.hid hE
    have hmm := @run_makeMap Try.prog
    clear hbad hcf hany hE
    go_enter Try.func91, Try.ntmps91
    go_wp2_with (first
      | (go_at_call 128; refine (coins_any floor _).mono ?_; rintro e w1 ⟨rfl, rfl⟩; rw [HCF.out])
      | (go_at_call 129; refine (containsSec_any l _ R _ (HL.out.alloc _)).mono ?_; rintro e w1 ⟨rfl, hb1⟩; rw [HANY.out]; have HK1 := Lib.hid (HK0.out.grow hb1); have HB1 := Lib.hid (((Below.refl _ _).alloc (Nat.le_refl _) _).trans (hb1.mono (B' := w.heap.size) (by simp))); clear hb1))
    clear hmm
    have hb2 := HB1.out.alloc HB1.out.size (.map #[] 0)
    have hk2 := HK1.out.alloc (.map #[] 0)
    have hklt := HK1.out.lt
    have hm2 := MapI.made (P := Try.prog) (kt := 3) (et := 3) w1
    obtain ⟨u2, hu2⟩ : ∃ u, u = w1.alloc (.map #[] 0) := ⟨_, rfl⟩
    rw [← hu2] at hb2 hk2 hm2 ⊢
    clear hu2
    have HB2 := Lib.hid hb2
    have HK2 := Lib.hid hk2
    have HM2 := Lib.hid hm2
    clear hb2 hk2 hm2
    go_loopw [22] (fun i wr => ∃ k : Nat, k ≤ l.length ∧ i = .int .i64 k ∧ ((l.take k).map (·.b)).Nodup ∧ MapI Try.prog 3 3 wr w1.heap.size k (seenF l k) ∧ Blk wr w.heap.size 150 #[.bool false, .int .i64 0, .int .i64 0, .int .i64 0] ∧ Below w.heap.size w wr) (fun i _ => l.length - (intOf i).toNat)
    case atStart => exact ⟨0, Nat.zero_le _, rfl, by simp, by
      have h := HM2.out
      have e : seenF l 0 = fun _ => none := by funext x; simp [seenF]
      rw [e]; exact h, HK2.out, HB2.out⟩
    case round =>
      obtain ⟨k, hk, rfl, hnd, hm, hkb, hb⟩ := hrel
      have HND := Lib.hid hnd
      have HM := Lib.hid hm
      have HKB := Lib.hid hkb
      have HB := Lib.hid hb
      by_cases hlt : k < l.length
      · obtain ⟨bb, off, rfl, _, hbb, hcs⟩ := HC.out (by omega)
        obtain ⟨o, ho⟩ : ∃ o, l[k]? = some o := ⟨_, List.getElem?_eq_getElem hlt⟩
        have c0 : wr.cell? ⟨bb, off + k * 2, none⟩ = some (.int .i64 o.b) := (hb.cell hbb).trans (hcs _ _ (Sec.all_fst l k o ho))
        have c1 : wr.cell? ⟨bb, off + k * 2 + 1, none⟩ = some (.int .i64 o.c) := (hb.cell hbb).trans (hcs _ _ (Sec.all_snd l k o ho))
        have hw := HWF.out o (List.mem_of_getElem? ho)
        have hwf : (Lit.int .i64 o.b).wf = true := WalkArith.wf_i64 ⟨hw.1.1, hw.1.2⟩
        have e1 : (0 : Int) ≤ (k : Int) := by omega
        have e2 : (k : Int) < (l.length : Int) := by omega
        have hsn := take_snocS ho
        have hmx := hm.alloc (.cells #[.int .i64 o.b, .int .i64 o.c] 148)
        have hl1 := hmx.look int_keyed' Try.underlying196 Try.underlying3 Try.underlying3 (Try.zeroValue3 _) hwf
        have HO := Lib.hid ho
        have HSN := Lib.hid hsn
        have hmlt := hm.lt
        by_cases hin : o.b ∈ (l.take k).map (·.b)
        · have hv : (seenF l k o.b).getD 0 = 1 := by unfold seenF; rw [if_pos hin]; rfl
          rw [hv] at hl1
          obtain ⟨w', hs1, hm1, hg1⟩ := hmx.store int_keyed' Try.underlying196 Try.underlying3 Try.underlying3 (by unfold maxLen; omega) hwf (show (Lit.int .i64 2).wf = true by decide)
          have hl2 := hm1.look int_keyed' Try.underlying196 Try.underlying3 Try.underlying3 (Try.zeroValue3 _) hwf
          simp only [if_true, Option.getD_some] at hl2
          have hne : w1.heap.size ≠ w.heap.size := by have := HK1.out.lt; omega
          have hkb' := (hkb.alloc (.cells #[.int .i64 o.b, .int .i64 o.c] 148)).grown hg1 (fun e => hne (by injection e with e; exact e.symm))
          have n0 := (Blk.new wr 148 #[.int .i64 o.b, .int .i64 o.c]).grown hg1 (fun e => by injection e with e; omega)
          have n00 : w'.cell? ⟨wr.heap.size, 0, none⟩ = some (.int .i64 o.b) := n0.cell 0
          have q0 := hkb'.cell 0
          have q1 := hkb'.cell 1
          have q2 := hkb'.cell 2
          have q3 := hkb'.cell 3
          have qf := hkb'.frozen
          have hq := (((hkb'.set_ 0 (.bool false)).set_ 1 (.int .i64 0)).set_ 2 (.int .i64 0)).set_ 3 (.int .i64 0)
          have r0 := hq.cell 0
          have r1 := hq.cell 1
          have r2 := hq.cell 2
          have r3 := hq.cell 3
          simp at q0 q1 q2 q3 r0 r1 r2 r3
          have hbw := (HB.out.alloc HB.out.size (.cells #[.int .i64 o.b, .int .i64 o.c] 148)).grown hg1 (by have := HB.out.size; simp; omega) (fun g e => by injection e with e; have := HB1.out.size; omega)
          have HBW := Lib.hid hbw
          have hnot : ¬ (l.map (·.b)).Nodup := fun hn => by
            have h1 : ((l.take (k + 1)).map (·.b)).Nodup := hn.sublist ((List.take_sublist (k + 1) l).map _)
            rw [HSN.out] at h1
            exact (List.nodup_append.1 h1).2.2 _ hin _ (by simp) rfl
          have hE5 : sellE floor l = 5 := by rw [HE.out, if_neg hnot]
          have hV5 : sellV floor l = .agg #[.bool false, .int .i64 0, .int .i64 0, .int .i64 0] := by unfold sellV; rw [hE5, if_neg (by decide)]
          have HE5 := Lib.hid hE5
          have HV5 := Lib.hid hV5
          clear hnd hm hkb hb hcs ho hsn hmx hm1 hg1 hkb' n0 hq hbw hnot hE5 hV5 hin hv
          go_wp2_with fail
          rw [HE5.out, HV5.out]
          refine bodyPost_ret (v := .tuple #[.agg #[.bool false, .int .i64 0, .int .i64 0, .int .i64 0], .int .i64 5]) (by simp [results, Try.results91, go_sem, r0, r1, r2, r3]) rfl ⟨rfl, ?_⟩
          exact (((HBW.out.setCell (p := ⟨w.heap.size, 0, none⟩) (by simp) _).setCell (p := ⟨w.heap.size, 1, none⟩) (by simp) _).setCell (p := ⟨w.heap.size, 2, none⟩) (by simp) _).setCell (p := ⟨w.heap.size, 3, none⟩) (by simp) _
        · have hv : (seenF l k o.b).getD 0 = 0 := by unfold seenF; rw [if_neg hin]; rfl
          rw [hv] at hl1
          obtain ⟨w', hs1, hm1, hg1⟩ := hmx.store int_keyed' Try.underlying196 Try.underlying3 Try.underlying3 (by unfold maxLen; omega) hwf (show (Lit.int .i64 1).wf = true by decide)
          have hl2 := hm1.look int_keyed' Try.underlying196 Try.underlying3 Try.underlying3 (Try.zeroValue3 _) hwf
          simp only [if_true, Option.getD_some] at hl2
          have hne : w1.heap.size ≠ w.heap.size := by have := HK1.out.lt; omega
          have hkb' := (hkb.alloc (.cells #[.int .i64 o.b, .int .i64 o.c] 148)).grown hg1 (fun e => hne (by injection e with e; exact e.symm))
          have n0 := (Blk.new wr 148 #[.int .i64 o.b, .int .i64 o.c]).grown hg1 (fun e => by injection e with e; omega)
          have n00 : w'.cell? ⟨wr.heap.size, 0, none⟩ = some (.int .i64 o.b) := n0.cell 0
          have hbw := (HB.out.alloc HB.out.size (.cells #[.int .i64 o.b, .int .i64 o.c] 148)).grown hg1 (by have := HB.out.size; simp; omega) (fun g e => by injection e with e; have := HB1.out.size; omega)
          have hF : (fun y => if y = o.b then some (1 : Int) else seenF l k y) = seenF l (k + 1) := by
            funext y
            unfold seenF
            rw [HSN.out]
            by_cases hy : y = o.b <;> simp [hy]
          rw [hF] at hm1
          have HBW := Lib.hid hbw
          have HM1 := Lib.hid hm1
          have HKB1 := Lib.hid hkb'
          have HIN := Lib.hid hin
          clear hnd hm hkb hb hcs ho hsn hmx hm1 hg1 hkb' n0 hbw hF hin hv
          go_wp2_with fail
          go_roundw
          case rel =>
            refine ⟨k + 1, by omega, by go_num, ?_, HM1.out, HKB1.out, HBW.out⟩
            rw [HSN.out]
            refine List.nodup_append.2 ⟨HND.out, by simp, fun a ha b hb => ?_⟩
            simp at hb
            subst hb
            exact fun e => HIN.out (by rw [← e]; exact ha)
          case measure => simp [intOf]; omega
      · obtain rfl : k = l.length := by omega
        have hn : (l.map (·.b)).Nodup := by rw [List.take_length] at hnd; exact hnd
        have hE0 : sellE floor l = 0 := by rw [HE.out, if_pos hn]
        have hV0 : sellV floor l = soldVal floor l := by unfold sellV; rw [hE0, if_pos rfl]
        have HE0 := Lib.hid hE0
        have HV0 := Lib.hid hV0
        have hbw : Below w.heap.size w wr := hb
        obtain ⟨vb, vx, vy, vz, hform⟩ := soldVal_form floor l
        have HF := Lib.hid hform
        clear hnd hm hkb hb hn hE0 hV0 hbw hform
        go_wp2_with (go_at_call 130; refine (come_any floor l _ R _ (HL.out.grow HB.out)).mono ?_; rintro e w2 ⟨rfl, hb2⟩; rw [HF.out]; have hk := HKB.out.grow hb2; have q0 := hk.cell 0; have q1 := hk.cell 1; have q2 := hk.cell 2; have q3 := hk.cell 3; have qf := hk.frozen; simp at q0 q1 q2 q3; have HKX := Lib.hid hk; have HBX := Lib.hid (HB.out.trans (hb2.mono HB.out.size)); clear hb2 hk)
        have hq := (((HKX.out.set_ 0 (.bool vb)).set_ 1 (.int .i64 vx)).set_ 2 (.int .i64 vy)).set_ 3 (.int .i64 vz)
        have r0 := hq.cell 0
        have r1 := hq.cell 1
        have r2 := hq.cell 2
        have r3 := hq.cell 3
        simp at r0 r1 r2 r3
        rw [HE0.out, HV0.out, HF.out]
        refine bodyPost_ret (v := .tuple #[.agg #[.bool vb, .int .i64 vx, .int .i64 vy, .int .i64 vz], .int .i64 0]) (by simp [results, Try.results91, go_sem, r0, r1, r2, r3]) rfl ⟨rfl, ?_⟩
        exact (((HBX.out.setCell (p := ⟨w.heap.size, 0, none⟩) (by simp) _).setCell (p := ⟨w.heap.size, 1, none⟩) (by simp) _).setCell (p := ⟨w.heap.size, 2, none⟩) (by simp) _).setCell (p := ⟨w.heap.size, 3, none⟩) (by simp) _
end Go.Proofs.Ytcigobiolbojhaa.Vb

/- Plain: of one good, each buyer offering at most once, the costs' rule is the sealed one. -/
namespace Go.Proofs.Ytcigobiolbojhaa.Vb

def One (bs : List (List Off)) : Prop := ∀ l ∈ bs, l.length ≤ 1 ∧ ∀ o ∈ l, o.g = 1 ∧ 1 ≤ o.c ∧ o.c ≤ 1099511627776
theorem One.tail {l : List Off} {bs : List (List Off)} (h : One (l :: bs)) : One bs := fun x hx => h x (by simp [hx])
theorem One.offer {bs : List (List Off)} (h : One bs) : ∀ l ∈ bs, ∀ o ∈ l, Offer1 o := fun l hl o ho => by
  obtain ⟨h1, h2, h3⟩ := (h l hl).2 o ho
  exact ⟨by omega, by omega, h2, h3⟩
theorem One.W0 {bs : List (List Off)} (h : One bs) : W bs 0 = 0 := W_zero bs h.offer
theorem one_list {l : List Off} (h : l.length ≤ 1) : l = [] ∨ ∃ o, l = [o] := by
  rcases l with _ | ⟨o, _ | ⟨p, l⟩⟩
  · exact .inl rfl
  · exact .inr ⟨o, rfl⟩
  · simp at h
theorem W_nil1 (bs : List (List Off)) (f : Nat) : W ([] :: bs) f = W bs f := rfl
theorem W_one1 {bs : List (List Off)} {o : Off} (h : One ([o] :: bs)) : W ([o] :: bs) 1 = max (W bs 1) o.c := by
  have hg := ((h [o] (by simp)).2 o (by simp)).1
  have h0 := h.tail.W0
  simp only [W, List.foldl_cons, List.foldl_nil, stepO, hg]
  have h1 : andNot 1 1 = 0 := by decide
  rw [h1, if_pos rfl, h0]
  omega
theorem pick_nil (g : Nat → Int) (f : Nat) (left : Int) : pickN g f left [] = (-1, f) := rfl
theorem choose_zero : ∀ {bs : List (List Off)}, One bs → ∀ {i : Nat} {x : Int}, (choose bs 0)[i]? = some x → x = -1
  | [], _, i, x, h => by simp [choose] at h
  | l :: bs, ho, i, x, h => by
    have hp : pickN (W bs) 0 (W (l :: bs) 0) l = (-1, 0) := pickN_none fun j o _ hj => by
      obtain ⟨hg, _⟩ := (ho l (by simp)).2 o (List.mem_of_getElem? hj)
      simp [pickB, hg]
      intro h; exact absurd h (by decide)
    simp only [choose, hp] at h
    cases i with
    | zero => simpa using h.symm
    | succ i => exact choose_zero ho.tail (by simpa using h)
theorem choose_one {bs : List (List Off)} {o : Off} (h : One ([o] :: bs)) : choose ([o] :: bs) 1 = if W bs 1 ≤ o.c then 0 :: choose bs 0 else -1 :: choose bs 1 := by
  have hg := ((h [o] (by simp)).2 o (by simp)).1
  have h1 : andNot 1 1 = 0 := by decide
  simp only [choose]
  rw [W_one1 h]
  by_cases hle : W bs 1 ≤ o.c
  · rw [if_pos hle]
    have hp : pickN (W bs) 1 (max (W bs 1) o.c) [o] = (0, 0) := by
      rw [pickN_some (k := 0) (o := o) rfl]
      · rw [hg, h1]; rfl
      · simp only [pickB, hg, h1, h.tail.W0, Bool.and_eq_true, decide_eq_true_eq, true_and]; omega
      · intro j x hj; omega
    rw [hp]
  · rw [if_neg hle]
    have hp : pickN (W bs) 1 (max (W bs 1) o.c) [o] = (-1, 1) := pickN_none fun j x hj hx => by
      have : x = o := by
        cases j with
        | zero => simpa using hx.symm
        | succ j => simp at hx
      subst this
      simp only [pickB, hg, h1, h.tail.W0, Bool.and_eq_false_iff, decide_eq_false_iff_not]
      right; omega
    rw [hp]
theorem mx_ge : ∀ {bs : List (List Off)}, One bs → ∀ {i : Nat} {o : Off}, bs[i]? = some [o] → o.c ≤ W bs 1
  | [], _, i, o, h => by simp at h
  | l :: bs, ho, 0, o, h => by
    simp at h; subst h
    rw [W_one1 ho]; omega
  | l :: bs, ho, i + 1, o, h => by
    have ih := mx_ge ho.tail (by simpa using h)
    rcases one_list (ho l (by simp)).1 with rfl | ⟨p, rfl⟩
    · rw [W_nil1]; exact ih
    · rw [W_one1 ho]; omega
theorem mx_le : ∀ {bs : List (List Off)} {c : Int}, One bs → 0 ≤ c → (∀ (i : Nat) (o : Off), bs[i]? = some [o] → o.c ≤ c) → W bs 1 ≤ c
  | [], c, _, h0, _ => h0
  | l :: bs, c, ho, h0, h => by
    have ih := mx_le ho.tail h0 (fun i o hi => h (i + 1) o (by simpa using hi))
    rcases one_list (ho l (by simp)).1 with rfl | ⟨p, rfl⟩
    · rw [W_nil1]; exact ih
    · rw [W_one1 ho]
      have := h 0 p rfl
      omega

/-- buyer i has the first of the greatest -/
def Win (bs : List (List Off)) (i : Nat) (c : Int) : Prop := (∃ o, bs[i]? = some [o] ∧ o.c = c) ∧ (∀ (j : Nat) (o : Off), j < i → bs[j]? = some [o] → o.c < c) ∧ ∀ (j : Nat) (o : Off), bs[j]? = some [o] → o.c ≤ c
theorem Win.uniq {bs : List (List Off)} {i j : Nat} {c d : Int} (h : Win bs i c) (k : Win bs j d) : i = j ∧ c = d := by
  obtain ⟨⟨o, ho, hc⟩, h1, h2⟩ := h
  obtain ⟨⟨p, hp, hd⟩, k1, k2⟩ := k
  have e1 := h2 j p hp
  have e2 := k2 i o ho
  have : c = d := by omega
  refine ⟨?_, this⟩
  rcases Nat.lt_trichotomy i j with h | h | h
  · have := k1 i o h ho; omega
  · exact h
  · have := h1 j p h hp; omega
theorem Win.mx {bs : List (List Off)} {i : Nat} {c : Int} (ho : One bs) (h : Win bs i c) : W bs 1 = c := by
  obtain ⟨⟨o, h1, rfl⟩, _, h3⟩ := h
  have := ((ho [o] (List.mem_of_getElem? h1)).2 o (by simp)).2.1
  exact Int.le_antisymm (mx_le ho (by omega) h3) (mx_ge ho h1)
theorem Win.cons_nil {bs : List (List Off)} {i : Nat} {c : Int} : Win ([] :: bs) (i + 1) c ↔ Win bs i c := by
  constructor
  · rintro ⟨⟨o, h1, h2⟩, h3, h4⟩
    exact ⟨⟨o, by simpa using h1, h2⟩, fun j p hj hp => h3 (j + 1) p (by omega) (by simpa using hp), fun j p hp => h4 (j + 1) p (by simpa using hp)⟩
  · rintro ⟨⟨o, h1, h2⟩, h3, h4⟩
    refine ⟨⟨o, by simpa using h1, h2⟩, fun j p hj hp => ?_, fun j p hp => ?_⟩
    · cases j with
      | zero => simp at hp
      | succ j => exact h3 j p (by omega) (by simpa using hp)
    · cases j with
      | zero => simp at hp
      | succ j => exact h4 j p (by simpa using hp)
/-- who is chosen has the first of the greatest -/
theorem choose_win : ∀ {bs : List (List Off)}, One bs → ∀ {i : Nat} {x : Int}, (choose bs 1)[i]? = some x → (0 ≤ x ↔ ∃ c, Win bs i c)
  | [], _, i, x, h => by simp [choose] at h
  | l :: bs, ho, i, x, h => by
    rcases one_list (ho l (by simp)).1 with rfl | ⟨o, rfl⟩
    · have hc : choose ([] :: bs) 1 = -1 :: choose bs 1 := rfl
      rw [hc] at h
      cases i with
      | zero =>
        simp at h
        subst h
        constructor
        · intro h; omega
        · rintro ⟨c, ⟨o, h1, _⟩, _⟩; simp at h1
      | succ i =>
        rw [choose_win ho.tail (by simpa using h)]
        exact ⟨fun ⟨c, hc⟩ => ⟨c, Win.cons_nil.2 hc⟩, fun ⟨c, hc⟩ => ⟨c, Win.cons_nil.1 hc⟩⟩
    · rw [choose_one ho] at h
      have ho1 := ((ho [o] (by simp)).2 o (by simp)).2.1
      by_cases hle : W bs 1 ≤ o.c
      · rw [if_pos hle] at h
        cases i with
        | zero =>
          simp at h
          subst h
          refine ⟨fun _ => ⟨o.c, ⟨o, rfl, rfl⟩, fun j p hj => by omega, fun j p hp => ?_⟩, fun _ => by omega⟩
          cases j with
          | zero => simp at hp; subst hp; omega
          | succ j =>
            have := mx_ge ho.tail (i := j) (o := p) (by simpa using hp)
            omega
        | succ i =>
          have := choose_zero ho.tail (i := i) (x := x) (by simpa using h)
          subst this
          refine ⟨fun h => by omega, fun ⟨c, ⟨p, hp, hpc⟩, h3, _⟩ => ?_⟩
          have h1 := h3 0 o (by omega) rfl
          have h2 := mx_ge ho.tail (i := i) (o := p) (by simpa using hp)
          omega
      · rw [if_neg hle] at h
        cases i with
        | zero =>
          simp at h
          subst h
          refine ⟨fun h => by omega, fun ⟨c, ⟨p, hp, hpc⟩, h3, h4⟩ => ?_⟩
          simp at hp
          subst hp
          have : W bs 1 ≤ c := mx_le ho.tail (by omega) (fun j q hq => h4 (j + 1) q (by simpa using hq))
          omega
        | succ i =>
          rw [choose_win ho.tail (by simpa using h)]
          constructor
          · rintro ⟨c, hw⟩
            have hm := hw.mx ho.tail
            obtain ⟨⟨p, h1, h2⟩, h3, h4⟩ := hw
            refine ⟨c, ⟨p, by simpa using h1, h2⟩, fun j q hj hq => ?_, fun j q hq => ?_⟩
            · cases j with
              | zero => simp at hq; subst hq; omega
              | succ j => exact h3 j q (by omega) (by simpa using hq)
            · cases j with
              | zero => simp at hq; subst hq; omega
              | succ j => exact h4 j q (by simpa using hq)
          · rintro ⟨c, ⟨p, h1, h2⟩, h3, h4⟩
            exact ⟨c, ⟨p, by simpa using h1, h2⟩, fun j q hj hq => h3 (j + 1) q (by omega) (by simpa using hq), fun j q hq => h4 (j + 1) q (by simpa using hq)⟩

theorem bestK_nil {floor but : Int} {l : List Sec} : ∀ {k : Nat}, k ≤ l.length → bestK floor but l k = none → ∀ (i : Nat) (s : Sec), i < k → (i : Int) ≠ but → l[i]? = some s → s.c < floor
  | 0, _, _, i, s, hi, _, _ => by omega
  | k + 1, hk, h, i, s, hi, hne, hs => by
    obtain ⟨t, ht⟩ : ∃ s, l[k]? = some s := ⟨_, List.getElem?_eq_getElem (by omega)⟩
    rw [bestK_succ ht, bstep] at h
    split at h
    · cases h
    · rename_i hc
      rcases Nat.lt_or_ge i k with hik | hik
      · exact bestK_nil (by omega) h i s hik hne hs
      · obtain rfl : i = k := by omega
        have e : t = s := Option.some.inj (ht.symm.trans hs)
        subst e
        rw [h] at hc
        simp only [beats, Bool.and_eq_true, decide_eq_true_eq, not_and] at hc
        rcases Int.lt_or_le t.c floor with h6 | h6
        · exact h6
        · exact absurd trivial (hc ⟨hne, h6⟩)
/-- what the best of the first k is -/
theorem bestK_some {floor but : Int} {l : List Sec} : ∀ {k j : Nat} {c : Int}, k ≤ l.length → bestK floor but l k = some (j, c) → (j : Int) ≠ but ∧ floor ≤ c ∧ (∃ s, l[j]? = some s ∧ s.c = c) ∧ (∀ (i : Nat) (s : Sec), i < j → (i : Int) ≠ but → floor ≤ s.c → l[i]? = some s → s.c < c) ∧ ∀ (i : Nat) (s : Sec), i < k → (i : Int) ≠ but → l[i]? = some s → s.c ≤ c
  | 0, j, c, _, h => by simp [bestK] at h
  | k + 1, j, c, hk, h => by
    obtain ⟨s, hs⟩ : ∃ s, l[k]? = some s := ⟨_, List.getElem?_eq_getElem (by omega)⟩
    rw [bestK_succ hs, bstep] at h
    split at h
    · rename_i hc
      simp only [Option.some.injEq, Prod.mk.injEq] at h
      obtain ⟨rfl, rfl⟩ := h
      simp only [Bool.and_eq_true, decide_eq_true_eq] at hc
      obtain ⟨⟨h1, h2⟩, h3⟩ := hc
      cases hb : bestK floor but l k with
      | none =>
        have hn : ∀ (i : Nat) (t : Sec), i < k → (i : Int) ≠ but → l[i]? = some t → t.c < floor := bestK_nil (by omega) hb
        exact ⟨h1, h2, ⟨s, hs, rfl⟩, fun i t hi hne hf ht => by have := hn i t hi hne ht; omega, fun i t hi hne ht => by
          rcases Nat.lt_or_ge i k with h | h
          · have := hn i t h hne ht; omega
          · obtain rfl : i = k := by omega
            rw [hs] at ht; cases ht; omega⟩
      | some p =>
        obtain ⟨j0, c0⟩ := p
        rw [hb] at h3
        simp only [beats, decide_eq_true_eq] at h3
        obtain ⟨_, _, _, _, h5⟩ := bestK_some (by omega) hb
        exact ⟨h1, h2, ⟨s, hs, rfl⟩, fun i t hi hne _ ht => by have := h5 i t hi hne ht; omega, fun i t hi hne ht => by
          rcases Nat.lt_or_ge i k with h | h
          · have := h5 i t h hne ht; omega
          · obtain rfl : i = k := by omega
            rw [hs] at ht; cases ht; omega⟩
    · rename_i hc
      obtain ⟨h1, h2, h3, h4, h5⟩ := bestK_some (by omega) h
      refine ⟨h1, h2, h3, h4, fun i t hi hne ht => ?_⟩
      rcases Nat.lt_or_ge i k with hik | hik
      · exact h5 i t hik hne ht
      · obtain rfl : i = k := by omega
        rw [hs] at ht
        cases ht
        rw [h] at hc
        simp only [beats, Bool.and_eq_true, decide_eq_true_eq, not_and] at hc
        rcases Int.lt_or_le s.c floor with h6 | h6
        · omega
        · have := hc ⟨hne, h6⟩; omega
theorem bestK_none' {floor but : Int} {l : List Sec} {k : Nat} (hk : k ≤ l.length) (h : bestK floor but l k = none) : ∀ (i : Nat) (s : Sec), i < k → (i : Int) ≠ but → l[i]? = some s → s.c < floor := bestK_nil hk h

/-- the bids of the first k buyers -/
def bidsTo (bs : List (List Off)) : Nat → List Sec
  | 0 => []
  | k + 1 => match bs[k]? with | some [o] => bidsTo bs k ++ [⟨k, o.c⟩] | _ => bidsTo bs k
theorem bidsTo_mem {bs : List (List Off)} : ∀ {k : Nat} {s : Sec}, s ∈ bidsTo bs k ↔ ∃ (i : Nat) (o : Off), i < k ∧ bs[i]? = some [o] ∧ s = ⟨i, o.c⟩
  | 0, s => by simp [bidsTo]
  | k + 1, s => by
    simp only [bidsTo]
    split
    · rename_i o ho
      rw [List.mem_append, bidsTo_mem]
      constructor
      · rintro (⟨i, p, h1, h2, h3⟩ | h)
        · exact ⟨i, p, by omega, h2, h3⟩
        · simp at h; exact ⟨k, o, by omega, ho, h⟩
      · rintro ⟨i, p, h1, h2, h3⟩
        rcases Nat.lt_or_ge i k with h | h
        · exact .inl ⟨i, p, h, h2, h3⟩
        · obtain rfl : i = k := by omega
          rw [ho] at h2
          simp at h2
          subst h2
          exact .inr (by simp [h3])
    · rename_i hno
      rw [bidsTo_mem]
      constructor
      · rintro ⟨i, p, h1, h2, h3⟩; exact ⟨i, p, by omega, h2, h3⟩
      · rintro ⟨i, p, h1, h2, h3⟩
        refine ⟨i, p, ?_, h2, h3⟩
        rcases Nat.lt_or_ge i k with h | h
        · exact h
        · obtain rfl : i = k := by omega
          exact absurd h2 (hno p)
theorem bidsTo_sorted (bs : List (List Off)) : ∀ k, (bidsTo bs k).Pairwise (fun s t => s.b < t.b)
  | 0 => by simp [bidsTo]
  | k + 1 => by
    simp only [bidsTo]
    split
    · refine List.pairwise_append.2 ⟨bidsTo_sorted bs k, by simp, fun s hs t ht => ?_⟩
      obtain ⟨i, o, h1, _, rfl⟩ := bidsTo_mem.1 hs
      simp at ht
      subst ht
      simp only
      omega
    · exact bidsTo_sorted bs k
theorem bidsTo_len (bs : List (List Off)) : ∀ k, (bidsTo bs k).length ≤ k
  | 0 => by simp [bidsTo]
  | k + 1 => by
    have := bidsTo_len bs k
    simp only [bidsTo]
    split
    · simp; omega
    · omega
theorem sorted_idx {l : List Sec} (h : l.Pairwise (fun s t => s.b < t.b)) {i j : Nat} {s t : Sec} (hi : l[i]? = some s) (hj : l[j]? = some t) : i < j ↔ s.b < t.b := by
  obtain ⟨h1, rfl⟩ := List.getElem?_eq_some_iff.1 hi
  obtain ⟨h2, rfl⟩ := List.getElem?_eq_some_iff.1 hj
  have hp := List.pairwise_iff_getElem.1 h
  constructor
  · intro hij; exact hp i j h1 h2 hij
  · intro hlt
    rcases Nat.lt_trichotomy i j with h' | h' | h'
    · exact h'
    · subst h'; omega
    · have := hp j i h2 h1 h'; omega

/-- the two rules agree -/
theorem single_plain {bs : List (List Off)} (ho : One bs) (hi : instE 1 bs = 0) : ∀ (i : Nat) (x : Int), (bestC 1 bs)[i]? = some x →
    match bestK 0 (-1) (bidsTo bs bs.length) (bidsTo bs bs.length).length with
    | none => x < 0
    | some (j, _) => (0 ≤ x ↔ ((((bidsTo bs bs.length)[j]?.map (·.b)).getD 0) = (i : Int))) ∧ (0 ≤ x → payAt 1 bs i x = nextC 0 (bidsTo bs bs.length) j) := by
  intro i x hx
  have hall : allOf 1 = 1 := by decide
  have hx' : (choose bs 1)[i]? = some x := by
    have := hx
    unfold bestC at this
    rwa [hall] at this
  have hwin := choose_win ho hx'
  have hlt : i < bs.length := by
    have := (List.getElem?_eq_some_iff.1 hx').1
    rwa [choose_length] at this
  have hsort := bidsTo_sorted bs bs.length
  have hmem : ∀ (q : Nat) (o : Off), bs[q]? = some [o] → ∃ p : Nat, (bidsTo bs bs.length)[p]? = some (⟨(q : Int), o.c⟩ : Sec) := fun q o hq =>
    List.getElem?_of_mem ((bidsTo_mem (s := ⟨(q : Int), o.c⟩)).2 ⟨q, o, (List.getElem?_eq_some_iff.1 hq).1, hq, rfl⟩)
  cases hb : bestK 0 (-1) (bidsTo bs bs.length) (bidsTo bs bs.length).length with
  | none =>
    simp only
    rcases Int.lt_or_le x 0 with h | h
    · exact h
    · obtain ⟨c, ⟨o, h1, h2⟩, _⟩ := hwin.1 h
      obtain ⟨p, hp⟩ := hmem i o h1
      have : o.c < 0 := bestK_none' (Nat.le_refl _) hb p _ (List.getElem?_eq_some_iff.1 hp).1 (by omega) hp
      have := ((ho [o] (List.mem_of_getElem? h1)).2 o (by simp)).2.1
      omega
  | some p =>
    obtain ⟨j, c⟩ := p
    simp only
    obtain ⟨_, _, ⟨s, hs, hsc⟩, hfirst, hmax⟩ := bestK_some (Nat.le_refl _) hb
    obtain ⟨q, o, hq, hqo, hsq⟩ := bidsTo_mem.1 (List.mem_of_getElem? hs)
    have hW : Win bs q c := by
      refine ⟨⟨o, hqo, by rw [← hsc, hsq]⟩, fun r t hr ht => ?_, fun r t ht => ?_⟩
      · obtain ⟨p, hp⟩ := hmem r t ht
        have hpj : p < j := (sorted_idx hsort hp hs).2 (by rw [hsq]; simp only; omega)
        have := ((ho [t] (List.mem_of_getElem? ht)).2 t (by simp)).2.1
        exact hfirst p _ hpj (by omega) (by simp only; omega) hp
      · obtain ⟨p, hp⟩ := hmem r t ht
        exact hmax p _ (List.getElem?_eq_some_iff.1 hp).1 (by omega) hp
    have hsb : (((bidsTo bs bs.length)[j]?.map (·.b)).getD 0) = (q : Int) := by rw [hs, hsq]; rfl
    rw [hsb]
    have hiff : 0 ≤ x ↔ (q : Int) = (i : Int) := by
      rw [hwin]
      constructor
      · rintro ⟨d, hd⟩; have := (hW.uniq hd).1; omega
      · intro h
        have : q = i := by omega
        subst this
        exact ⟨c, hW⟩
    refine ⟨hiff, fun h0 => ?_⟩
    have hqi : q = i := by have := hiff.1 h0; omega
    subst hqi
    -- what it pays is what the others have
    obtain ⟨x0, rfl⟩ : ∃ x0 : Nat, x = (x0 : Int) := ⟨x.toNat, by omega⟩
    rcases choose_get _ _ _ _ hx' with hm1 | ⟨j0, l0, o0, hj0, hl0, ho0⟩
    · omega
    · rw [hqo] at hl0
      have hl0' := (Option.some.inj hl0).symm
      subst hl0'
      have hj00 : j0 = 0 := by
        cases j0 with
        | zero => rfl
        | succ j0 => simp at ho0
      subst hj00
      simp at ho0
      subst ho0
      unfold payAt
      rw [if_neg (by omega), hj0, coinAt_some hqo (show [o][0]? = some o from rfl), hall, hW.mx ho]
      have hwo : woW 1 bs (q : Int) = W (bs.set q []) 1 := by
        unfold woW
        rw [if_pos (instE_withE hi hlt), hall]
        rfl
      have hoc : o.c = c := by rw [← hsc, hsq]
      rw [hwo, hoc]
      have hos : One (bs.set q []) := fun l hl => by
        rcases List.mem_or_eq_of_mem_set hl with h | rfl
        · exact ho l h
        · simp
      have hsame : ∀ (r : Nat) (t : Off), (bs.set q [])[r]? = some [t] ↔ r ≠ q ∧ bs[r]? = some [t] := fun r t => by
        rw [List.getElem?_set]
        by_cases hr : q = r
        · subst hr; simp [hlt]
        · simp [hr]; intro _ e; exact hr e.symm
      have hne : ∀ {p : Nat} {u : Sec}, (bidsTo bs bs.length)[p]? = some u → p ≠ j → u.b ≠ (q : Int) := fun {p u} hp hpj e => by
        have h1 := sorted_idx hsort hp hs
        have h2 := sorted_idx hsort hs hp
        rw [hsq] at h1 h2
        simp only at h1 h2
        omega
      have hgoal : W (bs.set q []) 1 = nextC 0 (bidsTo bs bs.length) j := by
        unfold nextC
        cases hb2 : bestK 0 (j : Int) (bidsTo bs bs.length) (bidsTo bs bs.length).length with
        | none =>
          simp only
          refine Int.le_antisymm (mx_le hos (Int.le_refl _) fun r t ht => ?_) (W_nonneg _ _)
          obtain ⟨hrq, hrt⟩ := (hsame r t).1 ht
          obtain ⟨p, hp⟩ := hmem r t hrt
          have hpj : (p : Int) ≠ (j : Int) := fun e => by
            have : p = j := by omega
            subst this
            rw [hs] at hp
            cases hp
            simp at hsq
            omega
          have : t.c < 0 := bestK_none' (Nat.le_refl _) hb2 p _ (List.getElem?_eq_some_iff.1 hp).1 hpj hp
          omega
        | some p2 =>
          obtain ⟨j2, c2⟩ := p2
          simp only
          obtain ⟨hj2, hf2, ⟨s2, hs2, hsc2⟩, _, hmax2⟩ := bestK_some (Nat.le_refl _) hb2
          obtain ⟨q2, o2, hq2, hqo2, hsq2⟩ := bidsTo_mem.1 (List.mem_of_getElem? hs2)
          have hq2q : q2 ≠ q := fun e => hne hs2 (by omega) (by rw [hsq2]; simp only; omega)
          refine Int.le_antisymm (mx_le hos hf2 fun r t ht => ?_) ?_
          · obtain ⟨hrq, hrt⟩ := (hsame r t).1 ht
            obtain ⟨p, hp⟩ := hmem r t hrt
            have hpj : (p : Int) ≠ (j : Int) := fun e => by
              have : p = j := by omega
              subst this
              rw [hs] at hp
              cases hp
              simp at hsq
              omega
            exact hmax2 p _ (List.getElem?_eq_some_iff.1 hp).1 hpj hp
          · have := mx_ge hos ((hsame q2 o2).2 ⟨hq2q, hqo2⟩)
            rw [← hsc2, hsq2]
            exact this
      rw [hgoal]
      omega
end Go.Proofs.Ytcigobiolbojhaa.Vb

/- Law 17's own: single. -/
namespace Go.Proofs.Ytcigobiolbojhaa.Vb
open Go.RowKit

theorem Offs.at_ {w : World} {R : Nat → Prop} {A : Option Addr} {n c k : Nat} {l : List Off} {o : Off} (h : Offs w R (.slice A n c) l) (hk : l[k]? = some o) :
    ∃ b off, A = some ⟨b, off, none⟩ ∧ b < w.heap.size ∧ w.cell? ⟨b, off + k * 2, none⟩ = some (.int .u32 o.g) ∧ w.cell? ⟨b, off + k * 2 + 1, none⟩ = some (.int .i64 o.c) := by
  obtain ⟨⟨_, A', c', hv, _, _, hcs⟩, _⟩ := h
  injection hv with hA _ _
  subst hA
  have hlt := (List.getElem?_eq_some_iff.1 hk).1
  obtain ⟨b, off, hA, _, hlt2, hcc⟩ := hcs (by omega)
  exact ⟨b, off, hA, hlt2, hcc _ _ (Off.all_fst l k o hk), hcc _ _ (Off.all_snd l k o hk)⟩
theorem et_sec : ElemT Try.prog 116 148 2 16 := elemT_of Try.underlying116 (by omega) (z := .agg #[.int .i64 0, .int .i64 0]) (by kernel_rfl) rfl

theorem one_of {bs : List (List Off)} (hw : ∀ l ∈ bs, ∀ o ∈ l, o.wf) (hi : instE 1 bs = 0) (h : ∀ l ∈ bs, l.length ≤ 1) : One bs := fun l hl => by
  obtain ⟨hok, hg⟩ := okb_of hw hi
  refine ⟨h l hl, fun o ho => ?_⟩
  obtain ⟨h1, _, h3, h4⟩ := (hok.2 l hl).2 o ho
  have : o.g ≤ 1 := by simpa using hg l hl o ho
  exact ⟨by omega, h3, h4⟩
theorem sell_single {bs : List (List Off)} (ho : One bs) (hlen : bs.length ≤ 32) : sellE 0 (bidsTo bs bs.length) = 0 := by
  have hb : sellBad 0 (bidsTo bs bs.length) = false := by
    unfold sellBad
    simp only [Bool.or_eq_false_iff, Bool.not_eq_false', List.any_eq_false]
    refine ⟨by decide, fun s hs => ?_⟩
    obtain ⟨i, o, hi, hio, rfl⟩ := bidsTo_mem.1 hs
    have := ((ho [o] (List.mem_of_getElem? hio)).2 o (by simp)).2
    simp only [secBad, Bool.or_eq_true, decide_eq_true_eq, not_or, Bool.not_eq_true', Bool.not_eq_false]
    exact ⟨by omega, by rw [coinB_iff]; omega⟩
  unfold sellE
  rw [if_neg (by rw [hb]; decide), if_pos]
  have := bidsTo_sorted bs bs.length
  rw [List.Nodup, List.pairwise_map]
  exact this.imp fun h e => by omega
theorem secs_wf {bs : List (List Off)} (hw : ∀ l ∈ bs, ∀ o ∈ l, o.wf) (hlen : bs.length ≤ 32) (k : Nat) (hk : k ≤ bs.length) : ∀ s ∈ bidsTo bs k, s.wf := fun s hs => by
  obtain ⟨i, o, hi, hio, rfl⟩ := bidsTo_mem.1 hs
  have := hw [o] (List.mem_of_getElem? hio) o (by simp)
  exact ⟨⟨by simp only; omega, by simp only; omega⟩, this.2.1, this.2.2⟩

set_option maxRecDepth 100000 in
set_option maxHeartbeats 3200000 in
theorem single_any (n : Int) (bs : List (List Off)) (W0 : Int) (vx cv pv : Value) (R R1 R2 : Nat → Prop) (w : World) (hl : Buys w R vx bs) (hi : instE n bs = 0) (hc : Sl w R1 cv bs.length 1 (ints (bestC n bs))) (hp : Sl w R2 pv bs.length 1 (ints (paysC n bs))) :
    Calls Try.prog 35 #[.agg #[.int .i64 n, vx], .agg #[cv, .int .i64 W0, pv]] w fun e w' => e = .returned (.bool true) ∧ Below w.heap.size w w' := by
  have HB := Lib.hid hl
  have HCV := Lib.hid hc
  have HPV := Lib.hid hp
  obtain ⟨vs, ⟨_, A, cap, rfl, hncap, hcap, hcells⟩, hvs⟩ := id hl
  obtain ⟨_, CA, cc, rfl, _⟩ := id hc
  obtain ⟨_, PA, pc, rfl, _⟩ := id hp
  have hlen := (instE_zero hi).2.2.1
  by_cases hn : n = 1
  · subst hn
    have HWF := Lib.hid (buys_wf hl)
    have HI := Lib.hid hi
    have HC := Lib.hid hcells
    have HV := Lib.hid hvs
    clear hl hc hp hcells hvs hi hcap
    go_enter Try.func35, Try.ntmps35
    go_wp2_with fail
    obtain ⟨U0, hU0⟩ : ∃ U, U = (w.alloc (.cells #[.int .i64 1, .slice A bs.length cap] 24)).alloc (.cells #[.slice CA bs.length cc, .int .i64 W0, .slice PA bs.length pc] 36) := ⟨_, rfl⟩
    have hX : Blk U0 w.heap.size 24 #[.int .i64 1, .slice A bs.length cap] := by rw [hU0]; exact (Blk.new w _ _).alloc _
    have hP : Blk U0 (w.heap.size + 1) 36 #[.slice CA bs.length cc, .int .i64 W0, .slice PA bs.length pc] := by rw [hU0]; exact Blk.new' _ _ (by simp)
    have hB : Below w.heap.size w U0 := by rw [hU0]; exact ((Below.refl _ _).alloc (Nat.le_refl _) _).alloc (by simp) _
    have hs0 : w.heap.size + 2 ≤ U0.heap.size := by rw [hU0]; simp
    rw [← hU0]
    have HX := Lib.hid hX
    have HP := Lib.hid hP
    have HBU := Lib.hid hB
    clear hU0 hX hP hB
    go_loopw [5, 6] (fun b i wr => ∃ (k : Nat) (A' : Option Addr) (c' : Nat), k ≤ bs.length ∧ i = .int .i64 k ∧ b = .slice A' (bidsTo bs k).length c' ∧ wr.ownsRow (w.heap.size + 2) 148 2 (.slice A' (bidsTo bs k).length c') (bidsTo bs k).length (Sec.all (bidsTo bs k)) ∧
      Below (w.heap.size + 2) U0 wr ∧ ∀ j l, j < k → bs[j]? = some l → l.length ≤ 1) (fun _ i _ => bs.length - (intOf i).toNat)
    case atStart => exact ⟨0, none, 0, Nat.zero_le _, rfl, rfl, World.ownsRow_nil _ _ _ _, Below.refl _ _, fun j l hj => by omega⟩
    case round =>
      obtain ⟨k, A', c', hk, rfl, rfl, how, hb, hno⟩ := hrel
      have HOW := Lib.hid how
      have HB2 := Lib.hid hb
      have HNO := Lib.hid hno
      have hbw := HBU.out.trans (hb.mono (B' := w.heap.size) (by omega))
      have HBW := Lib.hid hbw
      have hXr := HX.out.below hb (by omega)
      have hPr := HP.out.below hb (by omega)
      have x0 : wr.cell? ⟨w.heap.size, 0, none⟩ = some (.int .i64 1) := hXr.cell 0
      have x1 : wr.cell? ⟨w.heap.size, 1, none⟩ = some (.slice A bs.length cap) := hXr.cell 1
      have HXr := Lib.hid hXr
      have HPr := Lib.hid hPr
      have hbl := bidsTo_len bs k
      have hszr : w.heap.size + 2 ≤ wr.heap.size := Nat.le_trans hs0 hb.size
      clear how hb hno hbw hXr hPr
      by_cases hlt : k < bs.length
      · obtain ⟨bq, off, rfl, _, hbq, hcs⟩ := HC.out (by omega)
        obtain ⟨l, ho⟩ : ∃ l, bs[k]? = some l := ⟨_, List.getElem?_eq_getElem hlt⟩
        obtain ⟨u, hu, hol⟩ := HV.out k l ho
        have c0 := (HBW.out.cell (p := ⟨bq, off + k, none⟩) hbq).trans (hcs _ _ hu)
        have hol' := hol.grow HBW.out
        obtain ⟨⟨_, A1, cap1, rfl, _⟩, _⟩ := id hol'
        have HO := Lib.hid ho
        have HOL := Lib.hid hol'
        have e1 : (0 : Int) ≤ (k : Int) := by omega
        have e2 : (k : Int) < (bs.length : Int) := by omega
        clear hcs hu hol hol' ho
        by_cases hl1 : 1 < l.length
        · go_wp2_with fail
          go_ret
          exact ⟨rfl, HBW.out⟩
        · by_cases hl0 : l.length = 1
          · obtain ⟨o, hlo⟩ : ∃ o, l = [o] := by
              rcases one_list (show l.length ≤ 1 by omega) with h | h
              · rw [h] at hl0; simp at hl0
              · exact h
            subst hlo
            obtain ⟨bo, oo, rfl, hbo, hc0, hc1⟩ := HOL.out.at_ (k := 0) (o := o) rfl
            have hsu : bidsTo bs (k + 1) = bidsTo bs k ++ [⟨k, o.c⟩] := by simp only [bidsTo]; rw [HO.out]
            have HSU := Lib.hid hsu
            rw [show oo + 0 * 2 + 1 = oo + 1 by omega] at hc1
            clear hsu hc0 hl0 hl1
            go_wp2_with (at_builtin; refine wpList_app _ rfl (.tmp 35) (.tmp 46) et_sec rfl (w.heap.size + 2) (.slice A' (bidsTo bs k).length c') (bidsTo bs k).length (Sec.all (bidsTo bs k)) rfl (own_alloc HOW.out _) (fun _ => True) (.slice (some ⟨wr.heap.size, 0, none⟩) 1 1) 1 [.int .i64 (k : Int), .int .i64 o.c] rfl (Sl.any (Sl.new wr #[.int .i64 (k : Int), .int .i64 o.c] _ 1 2 (by unfold maxLen; omega) rfl)) (by simp [Value.oneCell']) (by omega) (by unfold maxLen; omega) (by simp; omega) ?_; intro A2 c2 w1 hown hg hloc; have HG := Lib.hid hg; have HN := Lib.hid hown; clear hown hg hloc)
            go_roundw
            case rel =>
              have hN := HN.out
              rw [Sec.all_app (bidsTo bs k) ⟨(k : Int), o.c⟩] at hN
              refine ⟨k + 1, A2, c2, by omega, by go_num, by rw [HSU.out]; simp, ?_, ?_, fun j l' hj hl' => ?_⟩
              · rw [HSU.out]
                simpa using hN
              · exact (HB2.out.alloc (by omega) _).grown HG.out (by simp; omega) (fun g e => (HOW.out.lt _ e).1)
              · by_cases hjk : j < k
                · exact HNO.out j l' hjk hl'
                · obtain rfl : j = k := by omega
                  rw [HO.out] at hl'
                  cases hl'
                  simp
            case measure => simp [intOf]; omega
          · have hlz : l.length = 0 := by omega
            have hlnil : l = [] := List.eq_nil_of_length_eq_zero hlz
            subst hlnil
            have hsu : bidsTo bs (k + 1) = bidsTo bs k := by simp only [bidsTo]; rw [HO.out]
            have HSU := Lib.hid hsu
            clear hsu hl0 hl1 hlz
            go_wp2_with fail
            go_roundw
            case rel =>
              refine ⟨k + 1, A', c', by omega, by go_num, by rw [HSU.out], by rw [HSU.out]; exact HOW.out, HB2.out, fun j l' hj hl' => ?_⟩
              by_cases hjk : j < k
              · exact HNO.out j l' hjk hl'
              · obtain rfl : j = k := by omega
                rw [HO.out] at hl'
                cases hl'
                simp
            case measure => simp [intOf]; omega
      · obtain rfl : k = bs.length := by omega
        have hone : One bs := one_of HWF.out HI.out fun l hl => by
          obtain ⟨j, hj, rfl⟩ := List.getElem_of_mem hl
          exact HNO.out j _ hj (List.getElem?_eq_getElem hj)
        have hse := sell_single hone hlen
        have hsp := single_plain hone HI.out
        have hsv : sellV 0 (bidsTo bs bs.length) = soldVal 0 (bidsTo bs bs.length) := by unfold sellV; rw [hse, if_pos rfl]
        have hsecs : Secs wr (fun _ => True) (.slice A' (bidsTo bs bs.length).length c') (bidsTo bs bs.length) := ⟨(Sl.of_own HOW.out).any, secs_wf HWF.out hlen _ (Nat.le_refl _)⟩
        have HSE := Lib.hid hse
        have HSP := Lib.hid hsp
        have HSV := Lib.hid hsv
        have HSC := Lib.hid hsecs
        obtain ⟨vb, vw, vc, vp, hform⟩ := soldVal_form 0 (bidsTo bs bs.length)
        have HF := Lib.hid hform
        clear hse hsp hsv hsecs hone hform x0
        go_wp2_with (first
          | (go_at_call 91; refine (sell_any 0 _ _ _ _ HSC.out).mono ?_; rintro e w2 ⟨rfl, hb2⟩; rw [HSE.out, HSV.out, HF.out]; have hX := HXr.out.grow hb2; have hP := HPr.out.grow hb2; have x1 : w2.cell? ⟨w.heap.size, 1, none⟩ = some (.slice A bs.length cap) := hX.cell 1; have HX2 := Lib.hid hX; have HP2 := Lib.hid hP; have HB3 := Lib.hid (HBW.out.trans (hb2.mono HBW.out.size)); clear hb2 hX hP)
          | (go_at_call 18; refine (num_any 0 (by decide) (by decide) _).mono ?_; rintro e w9 ⟨rfl, rfl⟩))
        have hag : ∀ (i : Nat) (x : Int), (bestC 1 bs)[i]? = some x → ((vb = true ∧ vw = (i : Int)) ↔ 0 ≤ x) ∧ (0 ≤ x → payAt 1 bs i x = vp) := by
          intro i x hx
          have h1 := HSP.out i x hx
          have h2 := HF.out
          unfold soldVal at h2
          cases hbk : bestK 0 (-1) (bidsTo bs bs.length) (bidsTo bs bs.length).length with
          | none =>
            rw [hbk] at h1 h2
            simp only [Value.agg.injEq, Array.mk.injEq, List.cons.injEq, Value.bool.injEq, Value.int.injEq, true_and, and_true] at h2
            obtain ⟨rfl, _⟩ := h2
            simp only at h1
            exact ⟨⟨fun h => by simp at h, fun h => by omega⟩, fun h => by omega⟩
          | some p =>
            obtain ⟨j, c⟩ := p
            rw [hbk] at h1 h2
            simp only [Value.agg.injEq, Array.mk.injEq, List.cons.injEq, Value.bool.injEq, Value.int.injEq, true_and, and_true] at h2
            obtain ⟨rfl, rfl, _, rfl⟩ := h2
            simp only at h1
            exact ⟨⟨fun h => h1.1.2 h.2, fun h => ⟨rfl, h1.1.1 h⟩⟩, h1.2⟩
        have hS := Blk.new w2 150 #[.bool vb, .int .i64 vw, .int .i64 vc, .int .i64 vp]
        have hX := HX2.out.alloc (.cells #[.bool vb, .int .i64 vw, .int .i64 vc, .int .i64 vp] 150)
        have hP := HP2.out.alloc (.cells #[.bool vb, .int .i64 vw, .int .i64 vc, .int .i64 vp] 150)
        have hB4 := HB3.out.alloc HB3.out.size (.cells #[.bool vb, .int .i64 vw, .int .i64 vc, .int .i64 vp] 150)
        obtain ⟨U4, hU4⟩ : ∃ U, U = w2.alloc (.cells #[.bool vb, .int .i64 vw, .int .i64 vc, .int .i64 vp] 150) := ⟨_, rfl⟩
        rw [← hU4] at hS hX hP hB4 ⊢
        have HS4 := Lib.hid hS
        have HX4 := Lib.hid hX
        have HP4 := Lib.hid hP
        have HB4 := Lib.hid hB4
        have HAG := Lib.hid hag
        clear hS hX hP hB4 hU4 hag x1 hlt
        go_loopw [9] (fun i wr => ∃ k : Nat, k ≤ bs.length ∧ i = .int .i64 k ∧ Below U4.heap.size U4 wr) (fun i _ => bs.length - (intOf i).toNat)
        case atStart => exact ⟨0, Nat.zero_le _, rfl, Below.refl _ _⟩
        case round =>
          obtain ⟨k, hk, rfl, hb⟩ := hrel
          have HBB := Lib.hid hb
          have hX := HX4.out.grow hb
          have hP := HP4.out.grow hb
          have hS := HS4.out.grow hb
          have x1 : wr.cell? ⟨w.heap.size, 1, none⟩ = some (.slice A bs.length cap) := hX.cell 1
          by_cases hlt : k < bs.length
          · have hbw := HB4.out.trans (hb.mono (B' := w.heap.size) HB4.out.size)
            obtain ⟨b1, o1, c, rfl, _, hcc, hc1⟩ := (HCV.out.grow hbw).int_at hlt
            obtain ⟨b2, o2, y, rfl, _, hyy, hc2⟩ := (HPV.out.grow hbw).int_at hlt
            have hyp : y = payAt 1 bs k c := by rw [paysC_get hcc] at hyy; exact (Option.some.inj hyy).symm
            obtain ⟨ha1, ha2⟩ := HAG.out k c hcc
            have p0 : wr.cell? ⟨w.heap.size + 1, 0, none⟩ = some (.slice (some ⟨b1, o1, none⟩) bs.length cc) := hP.cell 0
            have p2 : wr.cell? ⟨w.heap.size + 1, 2, none⟩ = some (.slice (some ⟨b2, o2, none⟩) bs.length pc) := hP.cell 2
            have s0 : wr.cell? ⟨w2.heap.size, 0, none⟩ = some (.bool vb) := hS.cell 0
            have s1 : wr.cell? ⟨w2.heap.size, 1, none⟩ = some (.int .i64 vw) := hS.cell 1
            have s3 : wr.cell? ⟨w2.heap.size, 3, none⟩ = some (.int .i64 vp) := hS.cell 3
            have e1 : (0 : Int) ≤ (k : Int) := by omega
            have e2 : (k : Int) < (bs.length : Int) := by omega
            cases vb with
            | false =>
              have hneg : decide (0 ≤ c) = false := by
                have : ¬ 0 ≤ c := fun h => by have := ha1.2 h; simp at this
                simpa using this
              clear hb hX hP hS hbw hcc hyy hyp ha1 ha2
              go_wp2_with fail
              go_quiet (fail)
              go_wp2_with fail
              go_roundw
              case rel => exact ⟨k + 1, by omega, by go_num, below_drewN HBB.out _⟩
              case measure => simp [intOf]; omega
            | true =>
              by_cases hvw : vw = (k : Int)
              · have hc0 : 0 ≤ c := ha1.1 ⟨rfl, hvw⟩
                have hyv : y = vp := hyp.trans (ha2 hc0)
                subst hyv
                subst hvw
                have hpos : decide (0 ≤ c) = true := by simpa using hc0
                clear hb hX hP hS hbw hcc hyy hyp ha1 ha2 hc0
                go_wp2_with fail
                go_quiet (fail)
                go_wp2_with fail
                go_roundw
                case rel => exact ⟨k + 1, by omega, by go_num, below_drewN HBB.out _⟩
                case measure => simp [intOf]; omega
              · have hneg : decide (0 ≤ c) = false := by
                  have : ¬ 0 ≤ c := fun h => hvw (ha1.2 h).2
                  simpa using this
                have hvw' : (vw == (k : Int)) = false := by simpa using hvw
                clear hb hX hP hS hbw hcc hyy hyp ha1 ha2 hvw
                go_wp2_with fail
                go_quiet (fail)
                go_wp2_with fail
                go_roundw
                case rel => exact ⟨k + 1, by omega, by go_num, below_drewN HBB.out _⟩
                case measure => simp [intOf]; omega
          · clear hb hX hP hS
            go_wp2_with fail
            go_ret
            exact ⟨rfl, HB4.out.trans (HBB.out.mono (B' := w.heap.size) HB4.out.size)⟩
  · have hne : (n != 1) = true := by simpa using hn
    have hB0 : Below w.heap.size w ((w.alloc (.cells #[.int .i64 n, .slice A bs.length cap] 24)).alloc (.cells #[.slice CA bs.length cc, .int .i64 W0, .slice PA bs.length pc] 36)) := ((Below.refl _ _).alloc (Nat.le_refl _) _).alloc (by simp) _
    have HB0 := Lib.hid hB0
    clear hl hc hp hcells hvs hi hn hB0 hcap
    go_enter Try.func35, Try.ntmps35
    go_wp2_with fail
    go_ret
    exact ⟨rfl, HB0.out⟩
end Go.Proofs.Ytcigobiolbojhaa.Vb

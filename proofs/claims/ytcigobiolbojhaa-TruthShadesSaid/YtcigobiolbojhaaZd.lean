/- Joined by program: Works Giv Regn Given Stays All17 Works2 Asks LawI LawT Sec. -/
import Derived.Test.YtcigobiolbojhaaZc
import Derived.Deep.RegionHeld3
import Derived.Test.YtcigobiolbojhaaZa
/- Law 17's own: three, works. -/
namespace Go.Proofs.Ytcigobiolbojhaa.Vb
open Go.RowKit

def bs3 : List (List Off) := [[⟨1, 6⟩, ⟨3, 9⟩], [⟨2, 5⟩], [⟨3, 10⟩]]

theorem Sl.blk {w : World} {g n cap sz : Nat} {t : TypeId} {cs : Array Value} (h : Blk w g t cs) (h1 : n ≤ cap) (h2 : cap ≤ maxLen) (h3 : cs.size = n * sz) : Sl w (fun _ => True) (.slice (some ⟨g, 0, none⟩) n cap) n sz cs.toList :=
  ⟨by simpa using h3, some ⟨g, 0, none⟩, cap, rfl, h1, h2, fun _ => ⟨g, 0, rfl, trivial, h.lt, fun j u hj => by
    rw [show 0 + j = j from by omega]
    exact (h.cell j).trans (by simpa using hj)⟩⟩

theorem three_buys {w : World} {g g1 g2 g3 : Nat} {t u : TypeId} (h1 : Blk w g1 t #[.int .u32 1, .int .i64 6, .int .u32 3, .int .i64 9]) (h2 : Blk w g2 t #[.int .u32 2, .int .i64 5]) (h3 : Blk w g3 t #[.int .u32 3, .int .i64 10])
    (h : Blk w g u #[.slice (some ⟨g1, 0, none⟩) 2 2, .slice (some ⟨g2, 0, none⟩) 1 1, .slice (some ⟨g3, 0, none⟩) 1 1]) : Buys w (fun _ => True) (.slice (some ⟨g, 0, none⟩) 3 3) bs3 := by
  refine ⟨_, Sl.blk (sz := 1) h (by omega) (by unfold maxLen; omega) rfl, fun k l hk => ?_⟩
  rcases k with _ | _ | _ | k
  · obtain rfl : [⟨1, 6⟩, ⟨3, 9⟩] = l := by simpa [bs3] using hk
    exact ⟨_, rfl, Sl.blk (sz := 2) h1 (by omega) (by unfold maxLen; omega) rfl, fun o ho => by simp at ho; rcases ho with rfl | rfl <;> simp [Off.wf]⟩
  · obtain rfl : [⟨2, 5⟩] = l := by simpa [bs3] using hk
    exact ⟨_, rfl, Sl.blk (sz := 2) h2 (by omega) (by unfold maxLen; omega) rfl, fun o ho => by simp at ho; subst ho; simp [Off.wf]⟩
  · obtain rfl : [⟨3, 10⟩] = l := by simpa [bs3] using hk
    exact ⟨_, rfl, Sl.blk (sz := 2) h3 (by omega) (by unfold maxLen; omega) rfl, fun o ho => by simp at ho; subst ho; simp [Off.wf]⟩
  · simp [bs3] at hk

theorem Blk.new' {w : World} {g : Nat} (t : TypeId) (cs : Array Value) (hg : w.heap.size = g) : Blk (w.alloc (.cells cs t)) g t cs := by subst hg; exact Blk.new w t cs

set_option maxHeartbeats 800000 in
theorem three_any (w : World) :
    Calls Try.prog 76 #[] w fun e w' => ∃ A cap, e = .returned (.agg #[.int .i64 2, .slice A 3 cap]) ∧ Buys w' (fun _ => True) (.slice A 3 cap) bs3 ∧ Below w.heap.size w w' := by
  go_enter Try.func76, Try.ntmps76
  go_wp2
  refine bodyPost_ret (v := .agg #[.int .i64 2, .slice (some ⟨w.heap.size + 1 + 1 + 1 + 1, 0, none⟩) 3 3]) (by simp [results, Try.results76, go_sem]) rfl ⟨_, _, rfl, three_buys (((Blk.new' _ _ (by simp)).alloc _).alloc _ |>.alloc _) (((Blk.new' _ _ (by simp)).alloc _).alloc _) ((Blk.new' _ _ (by simp)).alloc _) (Blk.new' _ _ (by simp)), ?_⟩
  exact (((((Below.refl _ _).alloc (Nat.le_refl _) _).alloc (by simp) _).alloc (by simp; omega) _).alloc (by simp; omega) _).alloc (by simp; omega) _

theorem bs3_inst : instE 2 bs3 = 0 := by decide
theorem bs3_W : W bs3 (allOf 2) = 11 := by decide
theorem bs3_pays : paysC 2 bs3 = [5, 4, 0] := by decide
theorem bs3_wo : woW 2 bs3 0 = 10 := by decide
theorem bs3_with : withE 2 bs3 0 [] = 0 := by decide
end Go.Proofs.Ytcigobiolbojhaa.Vb

/- Law 17's own: what given makes. -/
namespace Go.Proofs.Ytcigobiolbojhaa.Vb
open Go.RowKit

/-- each list in memory of its own, with one offer of 77 behind it -/
def Giv (w : World) (lo : Nat) (v : Value) (bs : List (List Off)) : Prop :=
  ∃ vs, w.ownsRow lo 41 1 v bs.length vs ∧ ∀ (k : Nat) (l : List Off), bs[k]? = some l → ∃ b cap, vs[k]? = some (.slice (some ⟨b, 0, none⟩) l.length cap) ∧
    w.ownsRow lo 45 2 (.slice (some ⟨b, 0, none⟩) (l.length + 1) cap) (l.length + 1) (Off.all (l ++ [⟨77, 0⟩])) ∧ ∀ o ∈ l, o.wf
theorem Giv.grow {w w' : World} {lo : Nat} {v : Value} {bs : List (List Off)} (h : Giv w lo v bs) (hb : Below w.heap.size w w') : Giv w' lo v bs := by
  obtain ⟨vs, hs, ho⟩ := h
  exact ⟨vs, own_grow hs hb, fun k l hk => let ⟨b, c, h1, h2, h3⟩ := ho k l hk; ⟨b, c, h1, own_grow h2 hb, h3⟩⟩
theorem Giv.mono {w : World} {lo lo' : Nat} {v : Value} {bs : List (List Off)} (h : Giv w lo v bs) (hl : lo' ≤ lo) : Giv w lo' v bs := by
  obtain ⟨vs, hs, ho⟩ := h
  exact ⟨vs, own_mono hs hl, fun k l hk => let ⟨b, c, h1, h2, h3⟩ := ho k l hk; ⟨b, c, h1, own_mono h2 hl, h3⟩⟩
theorem own_lo {w w' : World} {lo : Nat} {e : TypeId} {sz n : Nat} {v : Value} {xs : List Value} {row : Option Nat} (h : w.ownsRow lo e sz v n xs) (hg : w.grownBy w' row) (hr : ∀ k, row = some k → k < lo) : w'.ownsRow lo e sz v n xs :=
  own_far h hg fun g e he => by have := (h.lt g he).1; have := hr g e; omega
theorem Giv.far {w w' : World} {lo : Nat} {v : Value} {bs : List (List Off)} {row : Option Nat} (h : Giv w lo v bs) (hg : w.grownBy w' row) (hr : ∀ k, row = some k → k < lo) : Giv w' lo v bs := by
  obtain ⟨vs, hs, ho⟩ := h
  exact ⟨vs, own_lo hs hg hr, fun k l hk => let ⟨b, c, h1, h2, h3⟩ := ho k l hk; ⟨b, c, h1, own_lo h2 hg hr, h3⟩⟩
theorem Giv.buys {w : World} {lo : Nat} {v : Value} {bs : List (List Off)} (h : Giv w lo v bs) : Buys w (fun _ => True) v bs := by
  obtain ⟨vs, hs, ho⟩ := h
  refine ⟨vs, (Sl.of_own hs).mono fun _ _ _ => trivial, fun k l hk => ?_⟩
  obtain ⟨b, c, h1, h2, h3⟩ := ho k l hk
  obtain ⟨_, A, cap, hv, hnc, hcm, hcs⟩ := Sl.of_own h2
  injection hv with hA _ hc
  subst hA hc
  refine ⟨_, h1, ⟨by rw [Off.all_length], _, _, rfl, by omega, hcm, fun h0 => ?_⟩, h3⟩
  obtain ⟨b', off, e, _, hlt, hcell⟩ := hcs (by omega)
  refine ⟨b', off, e, trivial, hlt, fun j u hj => hcell j u ?_⟩
  have : Off.all (l ++ [⟨77, 0⟩]) = Off.all l ++ Off.all [⟨77, 0⟩] := by simp [Off.all]
  rw [this, List.getElem?_append_left (List.getElem?_eq_some_iff.1 hj).1]
  exact hj
/-- One list more. -/
theorem Giv.snoc {w w' : World} {lo : Nat} {v : Value} {bs : List (List Off)} {vs : List Value} {l : List Off} {b cap : Nat} {A' : Option Addr} {cap' n : Nat} (hn : bs.length = n)
    (hs : w.ownsRow lo 41 1 v n vs)
    (ho : ∀ (k : Nat) (l : List Off), bs[k]? = some l → ∃ b cap, vs[k]? = some (.slice (some ⟨b, 0, none⟩) l.length cap) ∧ w.ownsRow lo 45 2 (.slice (some ⟨b, 0, none⟩) (l.length + 1) cap) (l.length + 1) (Off.all (l ++ [⟨77, 0⟩])) ∧ ∀ o ∈ l, o.wf)
    (hl : w.ownsRow lo 45 2 (.slice (some ⟨b, 0, none⟩) (l.length + 1) cap) (l.length + 1) (Off.all (l ++ [⟨77, 0⟩]))) (hw : ∀ o ∈ l, o.wf)
    (hown : w'.ownsRow lo 41 1 (.slice A' (n + 1) cap') (n + 1) (vs ++ [.slice (some ⟨b, 0, none⟩) l.length cap])) (hg : w.grownBy w' v.ownBlock) : Giv w' lo (.slice A' (n + 1) cap') (bs ++ [l]) := by
  subst hn
  have hlen : vs.length = bs.length := by simpa using hs.1
  have step : ∀ {u : Value} {m : Nat} {xs : List Value}, w.ownsRow lo 45 2 u m xs → w'.ownsRow lo 45 2 u m xs := fun h => own_far h hg fun g e => own_ne hs h (by decide) e
  refine ⟨vs ++ [.slice (some ⟨b, 0, none⟩) l.length cap], by simpa using hown, fun k l' hk => ?_⟩
  by_cases hkl : k < bs.length
  · rw [List.getElem?_append_left hkl] at hk
    obtain ⟨b', c', h1, h2, h3⟩ := ho k l' hk
    exact ⟨b', c', by rw [List.getElem?_append_left (by omega)]; exact h1, step h2, h3⟩
  · have : k = bs.length := by
      rcases Nat.lt_or_ge k (bs ++ [l]).length with h | h
      · simp at h; omega
      · rw [List.getElem?_eq_none h] at hk; cases hk
    subst this
    simp at hk
    subst hk
    exact ⟨b, cap, by rw [← hlen]; simp, step hl, hw⟩
end Go.Proofs.Ytcigobiolbojhaa.Vb

/- A region that draws its order: what is taken first is taken under a condition S; behind the last stores S need not hold. -/
namespace Go.Proofs.Ytcigobiolbojhaa.Vb
open Go

section
variable {P : Program} {ops : Array Oper} {Q : Exit → Act → World → Prop} {md : Region.Mode} {S : World → Prop} {fins : List Nat}

/-- each of the last operations waits for number i -/
def waitB (md : Region.Mode) (ops : Array Oper) (fins : List Nat) (i : Nat) : Bool :=
  fins.all fun j => ((ops[j]?).map fun o => o.after.any fun e => Region.binds md e && decide (e.on = i)).getD false

theorem waitB_spec {i j : Nat} {o : Oper} (h : waitB md ops fins i = true) (hj : fins.contains j = true) (ho : ops[j]? = some o) : ∃ e ∈ o.after, Region.binds md e = true ∧ e.on = i := by
  unfold waitB at h
  have := List.all_eq_true.1 h j (by simpa using hj)
  rw [ho] at this
  obtain ⟨k, hk, h1, h2⟩ : ∃ k, ∃ h : k < o.after.size, Region.binds md o.after[k] = true ∧ o.after[k].on = i := by simpa using this
  exact ⟨_, Array.getElem_mem hk, h1, h2⟩

def wpAnyF (P : Program) (md : Region.Mode) (ops : Array Oper) (Q : Exit → Act → World → Prop) (S : World → Prop) (fins : List Nat) : Nat → Array Bool → Act → World → Prop
  | 0, listed, a, w => Region.ready md ops listed = [] ∧ Q .normal a w
  | fuel + 1, listed, a, w =>
    (Region.ready md ops listed = [] → Q .normal a w) ∧
    ∀ i ∈ Region.ready md ops listed, wpOp P ops Q i (fun a' w' => (fins.contains i = false → S w') ∧ wpAnyF P md ops Q S fins fuel (listed.setIfInBounds i true) a' w') a w

theorem wpAny_of_F : ∀ (fuel : Nat) (listed : Array Bool) (a : Act) (w : World), wpAnyF P md ops Q S fins fuel listed a w → wpAny P md ops Q fuel listed a w
  | 0, _, _, _, h => h
  | fuel + 1, _, _, _, h => ⟨h.1, fun i hi => wpOp_mono (fun a' w' h' => wpAny_of_F fuel _ a' w' h'.2) (h.2 i hi)⟩

theorem wpAnyF_first {i : Nat} {oi : Oper} {v : Value} (hi : ops[i]? = some oi) (hsel : ∀ (j : Nat) (o : Oper) cs b, ops[j]? = some o → o.op ≠ .select cs b)
    (hfin : waitB md ops fins i = true) (hQ : ∀ c a w, Q (.panic c) (a.put oi.dst v) w → Q (.panic c) a w) :
    ∀ (fuel : Nat) (listed : Array Bool) (a : Act) (w : World),
      (∀ j oj, ops[j]? = some oj → j ≠ i → listed.getD j true = false → (∀ e ∈ oj.after, Region.binds md e = true → e.on ≠ i) → oi.apart ops oj = true) →
      i ∈ Region.ready md ops listed → YieldsIf P ops S oi v a → S w →
      wpAnyF P md ops Q S fins fuel (listed.setIfInBounds i true) (a.put oi.dst v) w → wpAnyF P md ops Q S fins (fuel + 1) listed a w := by
  intro fuel
  induction fuel with
  | zero =>
    intro listed a w _ hr hy hS H
    refine ⟨fun h => (by rw [h] at hr; cases hr), fun j hj => ?_⟩
    by_cases hji : j = i
    · subst hji; exact hy.wpOp hi hS ⟨fun _ => hS, H⟩
    · have := ready_mono hj hji
      rw [H.1] at this
      cases this
  | succ fuel ih =>
    intro listed a w hfree hr hy hS H
    refine ⟨fun h => (by rw [h] at hr; cases hr), fun j hj => ?_⟩
    by_cases hji : j = i
    · subst hji; exact hy.wpOp hi hS ⟨fun _ => hS, H⟩
    · have h1 := H.2 j (ready_mono hj hji)
      obtain ⟨hjun, oj, hoj, hall⟩ := mem_ready.1 hj
      have hnot : ∀ e ∈ oj.after, Region.binds md e = true → e.on ≠ i := fun e he hb heq => by
        have h1 := hall e he hb
        have h0 := (mem_ready.1 hr).1
        rw [heq] at h1
        rcases Nat.lt_or_ge i listed.size with h' | h'
        · simp [h'] at h0 h1; rw [h0] at h1; cases h1
        · simp [Array.getElem?_eq_none h'] at h1
      have hnf : fins.contains j = false := by
        cases hc : fins.contains j with
        | false => rfl
        | true =>
          obtain ⟨e, he, hb, heq⟩ := waitB_spec hfin hc hoj
          exact absurd heq (hnot e he hb)
      have h2 := wpOp_putIf hoj (hfree j oj hoj hji hjun hnot) (fun cs b => hsel i oi cs b hi) (fun cs b => hsel j oj cs b hoj) hQ hy h1
      have hfree' : ∀ k ok, ops[k]? = some ok → k ≠ i → (listed.setIfInBounds j true).getD k true = false →
          (∀ e ∈ ok.after, Region.binds md e = true → e.on ≠ i) → oi.apart ops ok = true := fun k ok hk hki hun hno => by
        refine hfree k ok hk hki ?_ hno
        by_cases hjk : j = k
        · subst hjk; exact hjun
        · rw [getD_set_ne true hjk] at hun; exact hun
      refine wpOp_mono (fun a' w' h3 => ⟨h3.2.1, ih (listed.setIfInBounds j true) a' w' hfree' (ready_mono hr (Ne.symm hji)) h3.1 (h3.2.1 hnf) ?_⟩) h2
      rw [Array.setIfInBounds_comm _ _ hji]
      exact h3.2.2

theorem wpAnyF_take {i : Nat} {oi : Oper} {v : Value} {fuel : Nat} {listed : Array Bool} {a : Act} {w : World} (hi : ops[i]? = some oi)
    (hs : Region.noSelect ops = true) (hf : Region.free md ops listed i = true) (hr : (Region.ready md ops listed).contains i = true) (hfin : waitB md ops fins i = true)
    (hQ : ∀ c a w, Q (.panic c) (a.put oi.dst v) w → Q (.panic c) a w) (hy : YieldsIf P ops S oi v a) (hS : S w)
    (h : wpAnyF P md ops Q S fins fuel (listed.setIfInBounds i true) (a.put oi.dst v) w) : wpAnyF P md ops Q S fins (fuel + 1) listed a w :=
  wpAnyF_first hi (Region.noSelect_spec hs) hfin hQ fuel listed a w (Region.free_spec hi hf) (by simpa using hr) hy hS h

theorem wpAnyF_done {listed : Array Bool} {a : Act} {w : World} (hr : Region.ready md ops listed = []) (h : Q .normal a w) : ∀ fuel, wpAnyF P md ops Q S fins fuel listed a w
  | 0 => ⟨hr, h⟩
  | _ + 1 => ⟨fun _ => h, by rw [hr]; simp⟩

def AllReadyF (P : Program) (md : Region.Mode) (ops : Array Oper) (Q : Exit → Act → World → Prop) (S : World → Prop) (fins : List Nat) (fuel : Nat) (listed : Array Bool) (a : Act) (w : World) (rs : List Nat) : Prop :=
  ∀ i ∈ rs, wpOp P ops Q i (fun a' w' => (fins.contains i = false → S w') ∧ wpAnyF P md ops Q S fins fuel (listed.setIfInBounds i true) a' w') a w
theorem AllReadyF.nil {fuel : Nat} {listed : Array Bool} {a : Act} {w : World} : AllReadyF P md ops Q S fins fuel listed a w [] := fun _ h => by cases h
theorem AllReadyF.cons {fuel : Nat} {listed : Array Bool} {a : Act} {w : World} {i : Nat} {o : Oper} {rs : List Nat} (ho : ops[i]? = some o) (hc : fins.contains i = false)
    (h : ∀ K' : Act → World → Prop, Shut (∀ a w, S w → (S w → wpAnyF P md ops Q S fins fuel (listed.setIfInBounds i true) a w) → K' a w) → if Region.wanted o (yielded ops a.tmps) = true then Oper.wp P o a w K' Q else K' (a.put o.dst undef) w)
    (hs : AllReadyF P md ops Q S fins fuel listed a w rs) : AllReadyF P md ops Q S fins fuel listed a w (i :: rs) := fun j hj => by
  rcases List.mem_cons.1 hj with rfl | hj
  · exact wpOp_step ho (fun K' hK => h K' (fun a w hS hW => hK a w ⟨fun _ => hS, hW hS⟩))
  · exact hs j hj
theorem AllReadyF.fin {fuel : Nat} {listed : Array Bool} {a : Act} {w : World} {i : Nat} {o : Oper} {rs : List Nat} (ho : ops[i]? = some o) (hc : fins.contains i = true)
    (h : ∀ K' : Act → World → Prop, Shut (∀ a w, wpAnyF P md ops Q S fins fuel (listed.setIfInBounds i true) a w → K' a w) → if Region.wanted o (yielded ops a.tmps) = true then Oper.wp P o a w K' Q else K' (a.put o.dst undef) w)
    (hs : AllReadyF P md ops Q S fins fuel listed a w rs) : AllReadyF P md ops Q S fins fuel listed a w (i :: rs) := fun j hj => by
  rcases List.mem_cons.1 hj with rfl | hj
  · exact wpOp_step ho (fun K' hK => h K' (fun a w hW => hK a w ⟨fun hf => (by rw [hc] at hf; cases hf), hW⟩))
  · exact hs j hj
theorem wpAnyF_ready {rs : List Nat} {fuel : Nat} {listed : Array Bool} {a : Act} {w : World} (hr : Region.ready md ops listed = rs) (hne : rs ≠ [])
    (h : AllReadyF P md ops Q S fins fuel listed a w rs) : wpAnyF P md ops Q S fins (fuel + 1) listed a w := ⟨fun h0 => absurd (hr ▸ h0) hne, hr ▸ h⟩
theorem wp_region_F {id : Nat} {a : Act} {w : World} (S : World → Prop) (fins : List Nat) (hm : P.follows .mixedOrders = true) (hS : S w.drew)
    (h : S w.drew → wpAnyF P .any ops Q S fins ops.size (Array.replicate ops.size false) a w.drew) : (Code.region id ops true).wp P Q a w :=
  wp_region_any hm (wpAny_of_F _ _ _ _ (h hS))
end
end Go.Proofs.Ytcigobiolbojhaa.Vb

/- Law 17's own: given. -/
namespace Go.Proofs.Ytcigobiolbojhaa.Vb
open Go.RowKit

set_option maxRecDepth 100000 in
set_option maxHeartbeats 3200000 in
theorem given_any (n : Int) (bs : List (List Off)) (v : Value) (R : Nat → Prop) (w : World) (hl : Buys w R v bs) (hsm : Small bs) :
    Calls Try.prog 15 #[.agg #[.int .i64 n, v]] w fun e w' => ∃ A' cap', e = .returned (.agg #[.int .i64 n, .slice A' bs.length cap']) ∧ Giv w' w.heap.size (.slice A' bs.length cap') bs ∧ Below w.heap.size w w' := by
  obtain ⟨vs, ⟨hlen, A, cap, rfl, hncap, hcap, hcells⟩, hvs⟩ := id hl
  have hsm1 := hsm.1
  have HSM := Lib.hid hsm.2
  have HC := Lib.hid hcells
  have HV := Lib.hid hvs
  clear hl hcells hvs hlen hcap hsm
  go_enter Try.func15, Try.ntmps15
  go_wp2
  have hw0 : ∃ W0, W0 = ((w.alloc (.cells #[.int .i64 n, .slice A bs.length cap] 24)).alloc (.cells #[.int .i64 0, .slice none 0 0] 24)).alloc (.cells #[.int .i64 n, .slice none 0 0] 24) := ⟨_, rfl⟩
  obtain ⟨W0, hW0⟩ := hw0
  have HX := Lib.hid (show Blk W0 w.heap.size 24 #[.int .i64 n, .slice A bs.length cap] from by rw [hW0]; exact ((Blk.new w _ _).alloc _).alloc _)
  have HR := Lib.hid (show Blk W0 (w.heap.size + 1) 24 #[.int .i64 0, .slice none 0 0] from by rw [hW0]; exact (Blk.new' _ _ (by simp)).alloc _)
  have HY := Lib.hid (show Blk W0 (w.heap.size + 2) 24 #[.int .i64 n, .slice none 0 0] from by rw [hW0]; exact Blk.new' _ _ (by simp))
  have HBW := Lib.hid (show Below w.heap.size w W0 from by rw [hW0]; exact (((Below.refl _ _).alloc (Nat.le_refl _) _).alloc (by simp) _).alloc (by simp; omega) _)
  have hs0 : W0.heap.size = w.heap.size + 3 := by rw [hW0]; simp
  rw [← hW0]
  clear hW0
  go_loopw [4] (fun i wr => ∃ (k : Nat) (A' : Option Addr) (cap' : Nat), k ≤ bs.length ∧ i = .int .i64 k ∧ Giv wr (w.heap.size + 3) (.slice A' k cap') (bs.take k) ∧ Blk wr (w.heap.size + 2) 24 #[.int .i64 n, .slice A' k cap'] ∧ Below (w.heap.size + 2) W0 wr)
    (fun i _ => bs.length - (intOf i).toNat)
  case atStart => exact ⟨0, none, 0, Nat.zero_le _, rfl, ⟨[], World.ownsRow_nil _ _ _ _, fun k l hk => by simp at hk⟩, HY.out, Below.refl _ _⟩
  case round =>
    obtain ⟨k, A', cap', hk, rfl, hgv, hy, hb⟩ := hrel
    have hx := HX.out.below hb (by omega)
    have hbw := HBW.out.trans (hb.mono (by omega))
    have x1 : wr.cell? ⟨w.heap.size, 1, none⟩ = some (.slice A bs.length cap) := hx.cell 1
    have y1 : wr.cell? ⟨w.heap.size + 2, 1, none⟩ = some (.slice A' k cap') := hy.cell 1
    have y0 : wr.cell? ⟨w.heap.size + 2, 0, none⟩ = some (.int .i64 n) := hy.cell 0
    have hsz : w.heap.size + 3 ≤ wr.heap.size := by have := hy.lt; omega
    have HGV := Lib.hid hgv
    have HY2 := Lib.hid hy
    have HB2 := Lib.hid hb
    have HBW2 := Lib.hid hbw
    by_cases hlt : k < bs.length
    · obtain ⟨bq, off, rfl, _, hbq, hcs⟩ := HC.out (by omega)
      obtain ⟨l, ho⟩ : ∃ l, bs[k]? = some l := ⟨_, List.getElem?_eq_getElem hlt⟩
      obtain ⟨u, hu, hol⟩ := HV.out k l ho
      have c0 : wr.cell? ⟨bq, off + k, none⟩ = some u := by have h := (hbw.cell hbq).trans (hcs _ _ hu); simpa using h
      have hbqr : bq < w.heap.size := hbq
      have HOL := Lib.hid (hol.grow hbw)
      have hll : l.length ≤ 64 := HSM.out l (List.mem_of_getElem? ho)
      obtain ⟨⟨_, A1, cap1, rfl, _⟩, _⟩ := hol
      have HO := Lib.hid ho
      obtain ⟨vs', hs', ho'⟩ := hgv
      have hlk : (bs.take k).length = k := by simp; omega
      rw [hlk] at hs'
      have HS := Lib.hid hs'
      have HO' := Lib.hid ho'
      have HLK := Lib.hid hlk
      clear hcs hu ho hx hy hb hbw hs' ho' hlk
      have e1 : (0 : Int) ≤ (k : Int) := by omega
      have e2 : (k : Int) < (bs.length : Int) := by omega
      have HP0 : Below wr.heap.size wr wr.drew := (Below.refl _ _).drew
      go_wp2_with fail
      refine wp_region_F (Below (w.heap.size + 3) wr) [22] (by kernel_rfl) ((Below.refl _ _).drew) (fun hS => ?_)
      obtain ⟨V0, hV⟩ : ∃ V, V = wr.drew := ⟨_, rfl⟩
      rw [← hV] at hS HP0 ⊢
      replace HP0 := Lib.hid HP0
      clear hV
      refine wpAnyF_take (i := 0) (oi := { dst := some 15, op := Go.Op.fieldAddr 24 (Go.Operand.tmp 3) 1, type := 0, pos := "law.go:46", after := #[], guard := none }) (v := ?_) rfl (by kernel_rfl) (by kernel_rfl) (by kernel_rfl) (by kernel_rfl) (fun _ _ _ h => h) (Or.inl ⟨by rfl, ?_⟩) hS ?_
      rotate_left
      · intro w' hSw; have q1 := (hSw.cell (p := ⟨w.heap.size, 1, none⟩) (by simp <;> omega)).trans x1; have q2 := (hSw.cell (p := ⟨bq, off + k, none⟩) (by simp <;> omega)).trans c0; have q3 : w'.cell? ⟨w.heap.size + 1 + 1, 1, none⟩ = _ := (hSw.cell (p := ⟨w.heap.size + 2, 1, none⟩) (by simp <;> omega)).trans y1; go_simp; try with_reducible rfl
      try simp only [Act.put, List.setIfInBounds_toArray, List.set_cons_zero, List.set_cons_succ]
      refine wpAnyF_take (i := 1) (oi := { dst := some 16, op := Go.Op.load 22 (Go.Operand.tmp 15), type := 22, pos := "law.go:46", after := #[{ on := 0, ground := Go.Ground.data }], guard := none }) (v := ?_) rfl (by kernel_rfl) (by kernel_rfl) (by kernel_rfl) (by kernel_rfl) (fun _ _ _ h => h) (Or.inl ⟨by rfl, ?_⟩) hS ?_
      rotate_left
      · intro w' hSw; have q1 := (hSw.cell (p := ⟨w.heap.size, 1, none⟩) (by simp <;> omega)).trans x1; have q2 := (hSw.cell (p := ⟨bq, off + k, none⟩) (by simp <;> omega)).trans c0; have q3 : w'.cell? ⟨w.heap.size + 1 + 1, 1, none⟩ = _ := (hSw.cell (p := ⟨w.heap.size + 2, 1, none⟩) (by simp <;> omega)).trans y1; go_simp; try with_reducible rfl
      try simp only [Act.put, List.setIfInBounds_toArray, List.set_cons_zero, List.set_cons_succ]
      refine wpAnyF_take (i := 3) (oi := { dst := some 18, op := Go.Op.fieldAddr 24 (Go.Operand.tmp 1) 1, type := 0, pos := "law.go:46", after := #[], guard := none }) (v := ?_) rfl (by kernel_rfl) (by kernel_rfl) (by kernel_rfl) (by kernel_rfl) (fun _ _ _ h => h) (Or.inl ⟨by rfl, ?_⟩) hS ?_
      rotate_left
      · intro w' hSw; have q1 := (hSw.cell (p := ⟨w.heap.size, 1, none⟩) (by simp <;> omega)).trans x1; have q2 := (hSw.cell (p := ⟨bq, off + k, none⟩) (by simp <;> omega)).trans c0; have q3 : w'.cell? ⟨w.heap.size + 1 + 1, 1, none⟩ = _ := (hSw.cell (p := ⟨w.heap.size + 2, 1, none⟩) (by simp <;> omega)).trans y1; go_simp; try with_reducible rfl
      try simp only [Act.put, List.setIfInBounds_toArray, List.set_cons_zero, List.set_cons_succ]
      refine wpAnyF_take (i := 4) (oi := { dst := some 19, op := Go.Op.load 22 (Go.Operand.tmp 18), type := 22, pos := "law.go:46", after := #[{ on := 3, ground := Go.Ground.data }], guard := none }) (v := ?_) rfl (by kernel_rfl) (by kernel_rfl) (by kernel_rfl) (by kernel_rfl) (fun _ _ _ h => h) (Or.inl ⟨by rfl, ?_⟩) hS ?_
      rotate_left
      · intro w' hSw; have q1 := (hSw.cell (p := ⟨w.heap.size, 1, none⟩) (by simp <;> omega)).trans x1; have q2 := (hSw.cell (p := ⟨bq, off + k, none⟩) (by simp <;> omega)).trans c0; have q3 : w'.cell? ⟨w.heap.size + 1 + 1, 1, none⟩ = _ := (hSw.cell (p := ⟨w.heap.size + 2, 1, none⟩) (by simp <;> omega)).trans y1; go_simp; try with_reducible rfl
      try simp only [Act.put, List.setIfInBounds_toArray, List.set_cons_zero, List.set_cons_succ]
      refine wpAnyF_take (i := 5) (oi := { dst := some 20, op := Go.Op.move (Go.Operand.tmp 4), type := 3, pos := "law.go:46", after := #[], guard := none }) (v := ?_) rfl (by kernel_rfl) (by kernel_rfl) (by kernel_rfl) (by kernel_rfl) (fun _ _ _ h => h) (Or.inl ⟨by rfl, ?_⟩) hS ?_
      rotate_left
      · intro w' hSw; have q1 := (hSw.cell (p := ⟨w.heap.size, 1, none⟩) (by simp <;> omega)).trans x1; have q2 := (hSw.cell (p := ⟨bq, off + k, none⟩) (by simp <;> omega)).trans c0; have q3 : w'.cell? ⟨w.heap.size + 1 + 1, 1, none⟩ = _ := (hSw.cell (p := ⟨w.heap.size + 2, 1, none⟩) (by simp <;> omega)).trans y1; go_simp; try with_reducible rfl
      try simp only [Act.put, List.setIfInBounds_toArray, List.set_cons_zero, List.set_cons_succ]
      refine wpAnyF_take (i := 6) (oi := { dst := some 21, op := Go.Op.indexAddr 22 (Go.Operand.tmp 19) (Go.Operand.tmp 20), type := 0, pos := "law.go:46", after := #[{ on := 4, ground := Go.Ground.data }, { on := 5, ground := Go.Ground.data }], guard := none }) (v := ?_) rfl (by kernel_rfl) (by kernel_rfl) (by kernel_rfl) (by kernel_rfl) (fun _ _ _ h => h) (Or.inl ⟨by rfl, ?_⟩) hS ?_
      rotate_left
      · intro w' hSw; have q1 := (hSw.cell (p := ⟨w.heap.size, 1, none⟩) (by simp <;> omega)).trans x1; have q2 := (hSw.cell (p := ⟨bq, off + k, none⟩) (by simp <;> omega)).trans c0; have q3 : w'.cell? ⟨w.heap.size + 1 + 1, 1, none⟩ = _ := (hSw.cell (p := ⟨w.heap.size + 2, 1, none⟩) (by simp <;> omega)).trans y1; go_simp; try with_reducible rfl
      try simp only [Act.put, List.setIfInBounds_toArray, List.set_cons_zero, List.set_cons_succ]
      refine wpAnyF_take (i := 7) (oi := { dst := some 22, op := Go.Op.load 41 (Go.Operand.tmp 21), type := 41, pos := "law.go:46", after := #[{ on := 6, ground := Go.Ground.data }], guard := none }) (v := ?_) rfl (by kernel_rfl) (by kernel_rfl) (by kernel_rfl) (by kernel_rfl) (fun _ _ _ h => h) (Or.inl ⟨by rfl, ?_⟩) hS ?_
      rotate_left
      · intro w' hSw; have q1 := (hSw.cell (p := ⟨w.heap.size, 1, none⟩) (by simp <;> omega)).trans x1; have q2 := (hSw.cell (p := ⟨bq, off + k, none⟩) (by simp <;> omega)).trans c0; have q3 : w'.cell? ⟨w.heap.size + 1 + 1, 1, none⟩ = _ := (hSw.cell (p := ⟨w.heap.size + 2, 1, none⟩) (by simp <;> omega)).trans y1; go_simp; try with_reducible rfl
      try simp only [Act.put, List.setIfInBounds_toArray, List.set_cons_zero, List.set_cons_succ]
      refine wpAnyF_take (i := 9) (oi := { dst := some 24, op := Go.Op.build 45 #[(0, Go.Operand.const (Go.Value.int Go.IntKind.u32 77))], type := 45, pos := "law.go:46", after := #[], guard := none }) (v := ?_) rfl (by kernel_rfl) (by kernel_rfl) (by kernel_rfl) (by kernel_rfl) (fun _ _ _ h => h) (Or.inl ⟨by rfl, ?_⟩) hS ?_
      rotate_left
      · intro w' hSw; have q1 := (hSw.cell (p := ⟨w.heap.size, 1, none⟩) (by simp <;> omega)).trans x1; have q2 := (hSw.cell (p := ⟨bq, off + k, none⟩) (by simp <;> omega)).trans c0; have q3 : w'.cell? ⟨w.heap.size + 1 + 1, 1, none⟩ = _ := (hSw.cell (p := ⟨w.heap.size + 2, 1, none⟩) (by simp <;> omega)).trans y1; go_simp; try with_reducible rfl
      try simp only [Act.put, List.setIfInBounds_toArray, List.set_cons_zero, List.set_cons_succ]
      refine wpAnyF_take (i := 12) (oi := { dst := some 27, op := Go.Op.fieldAddr 24 (Go.Operand.tmp 1) 1, type := 0, pos := "law.go:46", after := #[], guard := none }) (v := ?_) rfl (by kernel_rfl) (by kernel_rfl) (by kernel_rfl) (by kernel_rfl) (fun _ _ _ h => h) (Or.inl ⟨by rfl, ?_⟩) hS ?_
      rotate_left
      · intro w' hSw; have q1 := (hSw.cell (p := ⟨w.heap.size, 1, none⟩) (by simp <;> omega)).trans x1; have q2 := (hSw.cell (p := ⟨bq, off + k, none⟩) (by simp <;> omega)).trans c0; have q3 : w'.cell? ⟨w.heap.size + 1 + 1, 1, none⟩ = _ := (hSw.cell (p := ⟨w.heap.size + 2, 1, none⟩) (by simp <;> omega)).trans y1; go_simp; try with_reducible rfl
      try simp only [Act.put, List.setIfInBounds_toArray, List.set_cons_zero, List.set_cons_succ]
      refine wpAnyF_take (i := 13) (oi := { dst := some 28, op := Go.Op.load 22 (Go.Operand.tmp 27), type := 22, pos := "law.go:46", after := #[{ on := 12, ground := Go.Ground.data }], guard := none }) (v := ?_) rfl (by kernel_rfl) (by kernel_rfl) (by kernel_rfl) (by kernel_rfl) (fun _ _ _ h => h) (Or.inl ⟨by rfl, ?_⟩) hS ?_
      rotate_left
      · intro w' hSw; have q1 := (hSw.cell (p := ⟨w.heap.size, 1, none⟩) (by simp <;> omega)).trans x1; have q2 := (hSw.cell (p := ⟨bq, off + k, none⟩) (by simp <;> omega)).trans c0; have q3 : w'.cell? ⟨w.heap.size + 1 + 1, 1, none⟩ = _ := (hSw.cell (p := ⟨w.heap.size + 2, 1, none⟩) (by simp <;> omega)).trans y1; go_simp; try with_reducible rfl
      try simp only [Act.put, List.setIfInBounds_toArray, List.set_cons_zero, List.set_cons_succ]
      refine wpAnyF_take (i := 14) (oi := { dst := some 29, op := Go.Op.move (Go.Operand.tmp 4), type := 3, pos := "law.go:46", after := #[], guard := none }) (v := ?_) rfl (by kernel_rfl) (by kernel_rfl) (by kernel_rfl) (by kernel_rfl) (fun _ _ _ h => h) (Or.inl ⟨by rfl, ?_⟩) hS ?_
      rotate_left
      · intro w' hSw; have q1 := (hSw.cell (p := ⟨w.heap.size, 1, none⟩) (by simp <;> omega)).trans x1; have q2 := (hSw.cell (p := ⟨bq, off + k, none⟩) (by simp <;> omega)).trans c0; have q3 : w'.cell? ⟨w.heap.size + 1 + 1, 1, none⟩ = _ := (hSw.cell (p := ⟨w.heap.size + 2, 1, none⟩) (by simp <;> omega)).trans y1; go_simp; try with_reducible rfl
      try simp only [Act.put, List.setIfInBounds_toArray, List.set_cons_zero, List.set_cons_succ]
      refine wpAnyF_take (i := 15) (oi := { dst := some 30, op := Go.Op.indexAddr 22 (Go.Operand.tmp 28) (Go.Operand.tmp 29), type := 0, pos := "law.go:46", after := #[{ on := 13, ground := Go.Ground.data }, { on := 14, ground := Go.Ground.data }], guard := none }) (v := ?_) rfl (by kernel_rfl) (by kernel_rfl) (by kernel_rfl) (by kernel_rfl) (fun _ _ _ h => h) (Or.inl ⟨by rfl, ?_⟩) hS ?_
      rotate_left
      · intro w' hSw; have q1 := (hSw.cell (p := ⟨w.heap.size, 1, none⟩) (by simp <;> omega)).trans x1; have q2 := (hSw.cell (p := ⟨bq, off + k, none⟩) (by simp <;> omega)).trans c0; have q3 : w'.cell? ⟨w.heap.size + 1 + 1, 1, none⟩ = _ := (hSw.cell (p := ⟨w.heap.size + 2, 1, none⟩) (by simp <;> omega)).trans y1; go_simp; try with_reducible rfl
      try simp only [Act.put, List.setIfInBounds_toArray, List.set_cons_zero, List.set_cons_succ]
      refine wpAnyF_take (i := 16) (oi := { dst := some 31, op := Go.Op.load 41 (Go.Operand.tmp 30), type := 41, pos := "law.go:46", after := #[{ on := 15, ground := Go.Ground.data }], guard := none }) (v := ?_) rfl (by kernel_rfl) (by kernel_rfl) (by kernel_rfl) (by kernel_rfl) (fun _ _ _ h => h) (Or.inl ⟨by rfl, ?_⟩) hS ?_
      rotate_left
      · intro w' hSw; have q1 := (hSw.cell (p := ⟨w.heap.size, 1, none⟩) (by simp <;> omega)).trans x1; have q2 := (hSw.cell (p := ⟨bq, off + k, none⟩) (by simp <;> omega)).trans c0; have q3 : w'.cell? ⟨w.heap.size + 1 + 1, 1, none⟩ = _ := (hSw.cell (p := ⟨w.heap.size + 2, 1, none⟩) (by simp <;> omega)).trans y1; go_simp; try with_reducible rfl
      try simp only [Act.put, List.setIfInBounds_toArray, List.set_cons_zero, List.set_cons_succ]
      refine wpAnyF_take (i := 17) (oi := { dst := some 32, op := Go.Op.call { callee := Go.Callee.builtin Go.Builtin.len, args := #[Go.Operand.tmp 31], argTypes := #[41] }, type := 3, pos := "law.go:46", after := #[{ on := 16, ground := Go.Ground.data }], guard := none }) (v := ?_) rfl (by kernel_rfl) (by kernel_rfl) (by kernel_rfl) (by kernel_rfl) (fun _ _ _ h => h) (Or.inl ⟨by rfl, ?_⟩) hS ?_
      rotate_left
      · intro w' hSw; have q1 := (hSw.cell (p := ⟨w.heap.size, 1, none⟩) (by simp <;> omega)).trans x1; have q2 := (hSw.cell (p := ⟨bq, off + k, none⟩) (by simp <;> omega)).trans c0; have q3 : w'.cell? ⟨w.heap.size + 1 + 1, 1, none⟩ = _ := (hSw.cell (p := ⟨w.heap.size + 2, 1, none⟩) (by simp <;> omega)).trans y1; go_simp; try with_reducible rfl
      try simp only [Act.put, List.setIfInBounds_toArray, List.set_cons_zero, List.set_cons_succ]
      refine wpAnyF_ready (rs := [2, 10]) (by kernel_rfl) (by simp) ?_
      refine AllReadyF.cons (o := { dst := some 17, op := Go.Op.buildSlice 41 0 #[], type := 41, pos := "law.go:46", after := #[], guard := none }) rfl (by rfl) (fun K hK => ?_) ?_
      · go_simp
        refine hK.out _ _ ?_ (fun hS => ?_)
        · exact hS.alloc (by have := HP0.out.size; omega) _
        clear hK K
        try simp only [Act.put, List.setIfInBounds_toArray, List.set_cons_zero, List.set_cons_succ]
        have hE := own_empty (base := wr.heap.size) V0 (by have := HP0.out.size; omega) 45 2
        have hB := HP0.out.alloc (by have := HP0.out.size; omega) (.cells #[] 45)
        obtain ⟨V1, hV⟩ : ∃ V, V = V0.alloc (.cells #[] 45) := ⟨_, rfl⟩
        rw [← hV] at hE hB hS ⊢
        have HE := Lib.hid hE
        have HP1 := Lib.hid hB
        have hlE := (hE.lt V0.heap.size rfl).2
        clear hV hE hB
        refine wpAnyF_ready (rs := [8, 10]) (by kernel_rfl) (by simp) ?_
        refine AllReadyF.cons (o := { dst := some 23, op := Go.Op.call { callee := Go.Callee.builtin Go.Builtin.append, args := #[Go.Operand.tmp 17, Go.Operand.tmp 22], argTypes := #[41, 41] }, type := 41, pos := "law.go:46", after := #[{ on := 2, ground := Go.Ground.data }, { on := 7, ground := Go.Ground.data }], guard := none }) rfl (by rfl) (fun K hK => ?_) ?_
        · refine step_app V1 rfl (.tmp 17) (.tmp 22) et_off rfl wr.heap.size (.slice (some ⟨V0.heap.size, 0, none⟩) 0 0) 0 [] rfl HE.out R _ l.length (Off.all l) rfl (show Sl V1 R _ _ _ _ from (HOL.out.grow HP1.out).1) (Off.all_one l) (by omega) (by unfold maxLen; omega) (by have := HP1.out.size; omega) ?_
          intro A2 c2 V2 hown hg hloc
          rw [Nat.zero_add]
          refine hK.out _ _ ?_ (fun hS => ?_)
          · exact hS.grown hg (by have := HP1.out.size; omega) (fun g e => by have := (HE.out.lt g e).1; omega)
          clear hK K
          try simp only [Act.put, List.setIfInBounds_toArray, List.set_cons_zero, List.set_cons_succ]
          rw [Nat.zero_add, List.nil_append] at hown
          have hB := HP1.out.grown hg (by have := HP1.out.size; omega) (fun g e => (HE.out.lt g e).1)
          have HP2 := Lib.hid hB
          have HO1 := Lib.hid hown
          clear hown hg hloc hB
          refine wpAnyF_ready (rs := [10]) (by kernel_rfl) (by simp) ?_
          refine AllReadyF.cons (o := { dst := some 25, op := Go.Op.buildSlice 41 1 #[(0, Go.Operand.tmp 24)], type := 41, pos := "law.go:46", after := #[{ on := 9, ground := Go.Ground.data }], guard := none }) rfl (by rfl) (fun K hK => ?_) ?_
          · go_simp
            refine hK.out _ _ ?_ (fun hS => ?_)
            · exact hS.alloc (by have := HP2.out.size; omega) _
            clear hK K
            try simp only [Act.put, List.setIfInBounds_toArray, List.set_cons_zero, List.set_cons_succ]
            have hL := Blk.new V2 45 #[.int .u32 77, .int .i64 0]
            have hB := HP2.out.alloc (by have := HP2.out.size; omega) (.cells #[.int .u32 77, .int .i64 0] 45)
            have hO := own_alloc HO1.out (.cells #[.int .u32 77, .int .i64 0] 45)
            obtain ⟨V3, hV⟩ : ∃ V, V = V2.alloc (.cells #[.int .u32 77, .int .i64 0] 45) := ⟨_, rfl⟩
            rw [← hV] at hL hB hS ⊢
            rw [← hV] at hO
            have HO1 := Lib.hid hO
            clear hO
            have HL := Lib.hid hL
            have HP3 := Lib.hid hB
            clear hV hL hB
            refine wpAnyF_ready (rs := [11]) (by kernel_rfl) (by simp) ?_
            refine AllReadyF.cons (o := { dst := some 26, op := Go.Op.call { callee := Go.Callee.builtin Go.Builtin.append, args := #[Go.Operand.tmp 23, Go.Operand.tmp 25], argTypes := #[41, 41] }, type := 41, pos := "law.go:46", after := #[{ on := 8, ground := Go.Ground.data }, { on := 10, ground := Go.Ground.data }, { on := 8, ground := Go.Ground.chain }], guard := none }) rfl (by rfl) (fun K hK => ?_) ?_
            · refine step_app V3 rfl (.tmp 23) (.tmp 25) et_off rfl wr.heap.size (.slice A2 l.length c2) l.length (Off.all l) rfl HO1.out (fun _ => True) (.slice (some ⟨V2.heap.size, 0, none⟩) 1 1) 1 [.int .u32 77, .int .i64 0] rfl (Sl.blk (sz := 2) HL.out (Nat.le_refl 1) (by unfold maxLen; omega) rfl) (by simp [Value.oneCell']) (by omega) (by unfold maxLen; omega) (by have := HP3.out.size; omega) ?_
              intro A3 c3 V4 hown hg hloc
              refine hK.out _ _ ?_ (fun hS => ?_)
              · exact hS.grown hg (by have := HP3.out.size; omega) (fun g e => by have := (HO1.out.lt g e).1; omega)
              clear hK K
              try simp only [Act.put, List.setIfInBounds_toArray, List.set_cons_zero, List.set_cons_succ]
              have hB := HP3.out.grown hg (by have := HP3.out.size; omega) (fun g e => (HO1.out.lt g e).1)
              have hall : Off.all l ++ [.int .u32 77, .int .i64 0] = Off.all (l ++ [⟨77, 0⟩]) := (by simp [Off.all, Off.cells])
              rw [hall] at hown
              obtain ⟨gb, cb, hform, hgb, hgb2⟩ := World.ownsRow.form hown (by omega)
              injection hform with hA3 _ hc3
              subst hA3 hc3
              obtain ⟨_, A9, _, hv3, hnc3, hcm3, _⟩ := Sl.of_own hown
              injection hv3 with hA9 _ hc3'
              subst hc3' hA9
              have hc31 : ((l.length : Nat) : Int) ≤ (c3 : Int) := by omega
              have hc30 : (0 : Int) ≤ ((l.length : Nat) : Int) := by omega
              have HP4 := Lib.hid hB
              have HO2 := Lib.hid hown
              clear hown hg hloc hB hall
              refine wpAnyF_take (i := 18) (oi := { dst := some 33, op := Go.Op.slice 41 (Go.Operand.tmp 26) none (some (Go.Operand.tmp 32)) none, type := 41, pos := "law.go:46", after := #[{ on := 11, ground := Go.Ground.data }, { on := 17, ground := Go.Ground.data }], guard := none }) (v := ?_) rfl (by kernel_rfl) (by kernel_rfl) (by kernel_rfl) (by kernel_rfl) (fun _ _ _ h => h) (Or.inl ⟨by rfl, ?_⟩) hS ?_
              rotate_left
              · intro w' hSw; have q1 := (hSw.cell (p := ⟨w.heap.size, 1, none⟩) (by simp <;> omega)).trans x1; have q2 := (hSw.cell (p := ⟨bq, off + k, none⟩) (by simp <;> omega)).trans c0; have q3 : w'.cell? ⟨w.heap.size + 1 + 1, 1, none⟩ = _ := (hSw.cell (p := ⟨w.heap.size + 2, 1, none⟩) (by simp <;> omega)).trans y1; go_simp; try with_reducible rfl
              try simp only [Act.put, List.setIfInBounds_toArray, List.set_cons_zero, List.set_cons_succ]
              refine wpAnyF_ready (rs := [19]) (by kernel_rfl) (by simp) ?_
              refine AllReadyF.cons (o := { dst := some 34, op := Go.Op.buildSlice 22 1 #[(0, Go.Operand.tmp 33)], type := 22, pos := "law.go:46", after := #[{ on := 18, ground := Go.Ground.data }], guard := none }) rfl (by rfl) (fun K hK => ?_) ?_
              · go_simp
                refine hK.out _ _ ?_ (fun hS => ?_)
                · exact hS.alloc (by have := HP4.out.size; omega) _
                clear hK K
                try simp only [Act.put, List.setIfInBounds_toArray, List.set_cons_zero, List.set_cons_succ]
                have hN := Blk.new V4 41 #[.slice (some ⟨gb, 0, none⟩) l.length c3]
                have hB := HP4.out.alloc (by have := HP4.out.size; omega) (.cells #[.slice (some ⟨gb, 0, none⟩) l.length c3] 41)
                have hO := own_alloc HO2.out (.cells #[.slice (some ⟨gb, 0, none⟩) l.length c3] 41)
                obtain ⟨V5, hV⟩ : ∃ V, V = V4.alloc (.cells #[.slice (some ⟨gb, 0, none⟩) l.length c3] 41) := ⟨_, rfl⟩
                rw [← hV] at hN hB hS hO ⊢
                have HN1 := Lib.hid hN
                have HP5 := Lib.hid hB
                have HO3 := Lib.hid hO
                have HS2 := Lib.hid (own_grow HS.out hB)
                clear hV hN hB hO
                refine wpAnyF_ready (rs := [20]) (by kernel_rfl) (by simp) ?_
                refine AllReadyF.cons (o := { dst := some 35, op := Go.Op.call { callee := Go.Callee.builtin Go.Builtin.append, args := #[Go.Operand.tmp 16, Go.Operand.tmp 34], argTypes := #[22, 22] }, type := 22, pos := "law.go:46", after := #[{ on := 1, ground := Go.Ground.data }, { on := 19, ground := Go.Ground.data }, { on := 11, ground := Go.Ground.chain }], guard := none }) rfl (by rfl) (fun K hK => ?_) ?_
                · refine step_app V5 rfl (.tmp 16) (.tmp 34) et_offs rfl (w.heap.size + 3) (.slice A' k cap') k vs' rfl HS2.out (fun _ => True) (.slice (some ⟨V4.heap.size, 0, none⟩) 1 1) 1 [.slice (some ⟨gb, 0, none⟩) l.length c3] rfl (Sl.blk (sz := 1) HN1.out (Nat.le_refl 1) (by unfold maxLen; omega) rfl) (by simp [Value.oneCell']) (by omega) (by unfold maxLen; omega) (by have := HP5.out.size; omega) ?_
                  intro A4 c4 V6 hown hg hloc
                  refine hK.out _ _ ?_ (fun hS => ?_)
                  · exact hS.grown hg (by have := HP5.out.size; omega) (fun g e => (HS2.out.lt g e).1)
                  clear hK K
                  try simp only [Act.put, List.setIfInBounds_toArray, List.set_cons_zero, List.set_cons_succ]
                  have hfar : ∀ b, b < w.heap.size + 3 → some b ≠ (Value.slice A' k cap').ownBlock := (fun b hb e => by have := (HS2.out.lt b e.symm).1; omega)
                  have hyV := (HY2.out.grow HP5.out).grown hg (hfar _ (by omega))
                  have yc : V6.cell? ⟨w.heap.size + 1 + 1, 1, none⟩ = some (.slice A' k cap') := hyV.cell 1
                  have yf : V6.frozen? ⟨w.heap.size + 1 + 1, 1, none⟩ = false := hyV.frozen 1
                  have HYV := Lib.hid hyV
                  have HGV := Lib.hid hg
                  have HOV := Lib.hid hown
                  have HBV := HP5
                  have HWV := Lib.hid hS
                  clear hyV hg hown hloc hfar
                  refine wpAnyF_take (i := 21) (oi := { dst := some 36, op := Go.Op.fieldAddr 24 (Go.Operand.tmp 3) 1, type := 0, pos := "law.go:46", after := #[{ on := 0, ground := Go.Ground.phase }, { on := 1, ground := Go.Ground.phase }, { on := 2, ground := Go.Ground.phase }, { on := 3, ground := Go.Ground.phase }, { on := 4, ground := Go.Ground.phase }, { on := 5, ground := Go.Ground.phase }, { on := 6, ground := Go.Ground.phase }, { on := 7, ground := Go.Ground.phase }, { on := 8, ground := Go.Ground.phase }, { on := 9, ground := Go.Ground.phase }, { on := 10, ground := Go.Ground.phase }, { on := 11, ground := Go.Ground.phase }, { on := 12, ground := Go.Ground.phase }, { on := 13, ground := Go.Ground.phase }, { on := 14, ground := Go.Ground.phase }, { on := 15, ground := Go.Ground.phase }, { on := 16, ground := Go.Ground.phase }, { on := 17, ground := Go.Ground.phase }, { on := 18, ground := Go.Ground.phase }, { on := 19, ground := Go.Ground.phase }, { on := 20, ground := Go.Ground.phase }], guard := none }) (v := ?_) rfl (by kernel_rfl) (by kernel_rfl) (by kernel_rfl) (by kernel_rfl) (fun _ _ _ h => h) (Or.inl ⟨by rfl, ?_⟩) hS ?_
                  rotate_left
                  · intro w' hSw; have q1 := (hSw.cell (p := ⟨w.heap.size, 1, none⟩) (by simp <;> omega)).trans x1; have q2 := (hSw.cell (p := ⟨bq, off + k, none⟩) (by simp <;> omega)).trans c0; have q3 : w'.cell? ⟨w.heap.size + 1 + 1, 1, none⟩ = _ := (hSw.cell (p := ⟨w.heap.size + 2, 1, none⟩) (by simp <;> omega)).trans y1; go_simp; try with_reducible rfl
                  try simp only [Act.put, List.setIfInBounds_toArray, List.set_cons_zero, List.set_cons_succ]
                  refine wpAnyF_ready (rs := [22]) (by kernel_rfl) (by simp) ?_
                  refine AllReadyF.fin (o := { dst := none, op := Go.Op.store 22 (Go.Operand.tmp 36) (Go.Operand.tmp 35), type := 0, pos := "law.go:46", after := #[{ on := 21, ground := Go.Ground.data }, { on := 20, ground := Go.Ground.data }, { on := 20, ground := Go.Ground.chain }, { on := 0, ground := Go.Ground.phase }, { on := 1, ground := Go.Ground.phase }, { on := 2, ground := Go.Ground.phase }, { on := 3, ground := Go.Ground.phase }, { on := 4, ground := Go.Ground.phase }, { on := 5, ground := Go.Ground.phase }, { on := 6, ground := Go.Ground.phase }, { on := 7, ground := Go.Ground.phase }, { on := 8, ground := Go.Ground.phase }, { on := 9, ground := Go.Ground.phase }, { on := 10, ground := Go.Ground.phase }, { on := 11, ground := Go.Ground.phase }, { on := 12, ground := Go.Ground.phase }, { on := 13, ground := Go.Ground.phase }, { on := 14, ground := Go.Ground.phase }, { on := 15, ground := Go.Ground.phase }, { on := 16, ground := Go.Ground.phase }, { on := 17, ground := Go.Ground.phase }, { on := 18, ground := Go.Ground.phase }, { on := 19, ground := Go.Ground.phase }, { on := 20, ground := Go.Ground.phase }], guard := none }) rfl (by rfl) (fun K hK => ?_) ?_
                  · go_simp
                    refine hK.out _ _ ?_
                    clear hK K
                    try simp only [Act.put, List.setIfInBounds_toArray, List.set_cons_zero, List.set_cons_succ]
                    refine wpAnyF_done (by kernel_rfl) ?_ _
                    go_wp2_with fail
                    go_roundw
                    case rel =>
                      have hsn := Giv.snoc (bs := bs.take k) (l := l) HLK.out HS2.out (fun j l' hj => let ⟨b, c, h1, h2, h3⟩ := HO'.out j l' hj; ⟨b, c, h1, own_grow h2 HP5.out, h3⟩) (own_mono HO3.out (by omega)) HOL.out.2 HOV.out HGV.out
                      have htk : bs.take (k + 1) = bs.take k ++ [l] := by rw [List.take_add_one, HO.out]; rfl
                      refine ⟨k + 1, A4, c4, by omega, by go_num, ?_, ?_, ?_⟩
                      · rw [htk]
                        exact hsn.far (grownBy_setCell _ ⟨w.heap.size + 1 + 1, 1, none⟩ _) (fun b e => by simp at e; omega)
                      · exact HYV.out.set_ 1 (.slice A4 (k + 1) c4)
                      · exact (HB2.out.trans (HWV.out.mono (B' := w.heap.size + 2) (by omega))).setCell (p := ⟨w.heap.size + 1 + 1, 1, none⟩) (by simp) _
                    case measure => simp [intOf]; omega
                  exact AllReadyF.nil
                exact AllReadyF.nil
              exact AllReadyF.nil
            exact AllReadyF.nil
          exact AllReadyF.nil
        refine AllReadyF.cons (o := { dst := some 25, op := Go.Op.buildSlice 41 1 #[(0, Go.Operand.tmp 24)], type := 41, pos := "law.go:46", after := #[{ on := 9, ground := Go.Ground.data }], guard := none }) rfl (by rfl) (fun K hK => ?_) ?_
        · go_simp
          refine hK.out _ _ ?_ (fun hS => ?_)
          · exact hS.alloc (by have := HP1.out.size; omega) _
          clear hK K
          try simp only [Act.put, List.setIfInBounds_toArray, List.set_cons_zero, List.set_cons_succ]
          have hL := Blk.new V1 45 #[.int .u32 77, .int .i64 0]
          have hB := HP1.out.alloc (by have := HP1.out.size; omega) (.cells #[.int .u32 77, .int .i64 0] 45)
          have hE := own_alloc HE.out (.cells #[.int .u32 77, .int .i64 0] 45)
          obtain ⟨V2, hV⟩ : ∃ V, V = V1.alloc (.cells #[.int .u32 77, .int .i64 0] 45) := ⟨_, rfl⟩
          rw [← hV] at hL hB hS ⊢
          rw [← hV] at hE
          have HE := Lib.hid hE
          clear hE
          have HL := Lib.hid hL
          have HP2 := Lib.hid hB
          clear hV hL hB
          refine wpAnyF_ready (rs := [8]) (by kernel_rfl) (by simp) ?_
          refine AllReadyF.cons (o := { dst := some 23, op := Go.Op.call { callee := Go.Callee.builtin Go.Builtin.append, args := #[Go.Operand.tmp 17, Go.Operand.tmp 22], argTypes := #[41, 41] }, type := 41, pos := "law.go:46", after := #[{ on := 2, ground := Go.Ground.data }, { on := 7, ground := Go.Ground.data }], guard := none }) rfl (by rfl) (fun K hK => ?_) ?_
          · refine step_app V2 rfl (.tmp 17) (.tmp 22) et_off rfl wr.heap.size (.slice (some ⟨V0.heap.size, 0, none⟩) 0 0) 0 [] rfl HE.out R _ l.length (Off.all l) rfl (show Sl V2 R _ _ _ _ from (HOL.out.grow HP2.out).1) (Off.all_one l) (by omega) (by unfold maxLen; omega) (by have := HP2.out.size; omega) ?_
            intro A2 c2 V3 hown hg hloc
            rw [Nat.zero_add]
            refine hK.out _ _ ?_ (fun hS => ?_)
            · exact hS.grown hg (by have := HP2.out.size; omega) (fun g e => by have := (HE.out.lt g e).1; omega)
            clear hK K
            try simp only [Act.put, List.setIfInBounds_toArray, List.set_cons_zero, List.set_cons_succ]
            rw [Nat.zero_add, List.nil_append] at hown
            have hB := HP2.out.grown hg (by have := HP2.out.size; omega) (fun g e => (HE.out.lt g e).1)
            have HL := Lib.hid (HL.out.grown hg (by simp [Value.ownBlock]; omega))
            have HP3 := Lib.hid hB
            have HO1 := Lib.hid hown
            clear hown hg hloc hB
            refine wpAnyF_ready (rs := [11]) (by kernel_rfl) (by simp) ?_
            refine AllReadyF.cons (o := { dst := some 26, op := Go.Op.call { callee := Go.Callee.builtin Go.Builtin.append, args := #[Go.Operand.tmp 23, Go.Operand.tmp 25], argTypes := #[41, 41] }, type := 41, pos := "law.go:46", after := #[{ on := 8, ground := Go.Ground.data }, { on := 10, ground := Go.Ground.data }, { on := 8, ground := Go.Ground.chain }], guard := none }) rfl (by rfl) (fun K hK => ?_) ?_
            · refine step_app V3 rfl (.tmp 23) (.tmp 25) et_off rfl wr.heap.size (.slice A2 l.length c2) l.length (Off.all l) rfl HO1.out (fun _ => True) (.slice (some ⟨V1.heap.size, 0, none⟩) 1 1) 1 [.int .u32 77, .int .i64 0] rfl (Sl.blk (sz := 2) HL.out (Nat.le_refl 1) (by unfold maxLen; omega) rfl) (by simp [Value.oneCell']) (by omega) (by unfold maxLen; omega) (by have := HP3.out.size; omega) ?_
              intro A3 c3 V4 hown hg hloc
              refine hK.out _ _ ?_ (fun hS => ?_)
              · exact hS.grown hg (by have := HP3.out.size; omega) (fun g e => by have := (HO1.out.lt g e).1; omega)
              clear hK K
              try simp only [Act.put, List.setIfInBounds_toArray, List.set_cons_zero, List.set_cons_succ]
              have hB := HP3.out.grown hg (by have := HP3.out.size; omega) (fun g e => (HO1.out.lt g e).1)
              have hall : Off.all l ++ [.int .u32 77, .int .i64 0] = Off.all (l ++ [⟨77, 0⟩]) := (by simp [Off.all, Off.cells])
              rw [hall] at hown
              obtain ⟨gb, cb, hform, hgb, hgb2⟩ := World.ownsRow.form hown (by omega)
              injection hform with hA3 _ hc3
              subst hA3 hc3
              obtain ⟨_, A9, _, hv3, hnc3, hcm3, _⟩ := Sl.of_own hown
              injection hv3 with hA9 _ hc3'
              subst hc3' hA9
              have hc31 : ((l.length : Nat) : Int) ≤ (c3 : Int) := by omega
              have hc30 : (0 : Int) ≤ ((l.length : Nat) : Int) := by omega
              have HP4 := Lib.hid hB
              have HO2 := Lib.hid hown
              clear hown hg hloc hB hall
              refine wpAnyF_take (i := 18) (oi := { dst := some 33, op := Go.Op.slice 41 (Go.Operand.tmp 26) none (some (Go.Operand.tmp 32)) none, type := 41, pos := "law.go:46", after := #[{ on := 11, ground := Go.Ground.data }, { on := 17, ground := Go.Ground.data }], guard := none }) (v := ?_) rfl (by kernel_rfl) (by kernel_rfl) (by kernel_rfl) (by kernel_rfl) (fun _ _ _ h => h) (Or.inl ⟨by rfl, ?_⟩) hS ?_
              rotate_left
              · intro w' hSw; have q1 := (hSw.cell (p := ⟨w.heap.size, 1, none⟩) (by simp <;> omega)).trans x1; have q2 := (hSw.cell (p := ⟨bq, off + k, none⟩) (by simp <;> omega)).trans c0; have q3 : w'.cell? ⟨w.heap.size + 1 + 1, 1, none⟩ = _ := (hSw.cell (p := ⟨w.heap.size + 2, 1, none⟩) (by simp <;> omega)).trans y1; go_simp; try with_reducible rfl
              try simp only [Act.put, List.setIfInBounds_toArray, List.set_cons_zero, List.set_cons_succ]
              refine wpAnyF_ready (rs := [19]) (by kernel_rfl) (by simp) ?_
              refine AllReadyF.cons (o := { dst := some 34, op := Go.Op.buildSlice 22 1 #[(0, Go.Operand.tmp 33)], type := 22, pos := "law.go:46", after := #[{ on := 18, ground := Go.Ground.data }], guard := none }) rfl (by rfl) (fun K hK => ?_) ?_
              · go_simp
                refine hK.out _ _ ?_ (fun hS => ?_)
                · exact hS.alloc (by have := HP4.out.size; omega) _
                clear hK K
                try simp only [Act.put, List.setIfInBounds_toArray, List.set_cons_zero, List.set_cons_succ]
                have hN := Blk.new V4 41 #[.slice (some ⟨gb, 0, none⟩) l.length c3]
                have hB := HP4.out.alloc (by have := HP4.out.size; omega) (.cells #[.slice (some ⟨gb, 0, none⟩) l.length c3] 41)
                have hO := own_alloc HO2.out (.cells #[.slice (some ⟨gb, 0, none⟩) l.length c3] 41)
                obtain ⟨V5, hV⟩ : ∃ V, V = V4.alloc (.cells #[.slice (some ⟨gb, 0, none⟩) l.length c3] 41) := ⟨_, rfl⟩
                rw [← hV] at hN hB hS hO ⊢
                have HN1 := Lib.hid hN
                have HP5 := Lib.hid hB
                have HO3 := Lib.hid hO
                have HS2 := Lib.hid (own_grow HS.out hB)
                clear hV hN hB hO
                refine wpAnyF_ready (rs := [20]) (by kernel_rfl) (by simp) ?_
                refine AllReadyF.cons (o := { dst := some 35, op := Go.Op.call { callee := Go.Callee.builtin Go.Builtin.append, args := #[Go.Operand.tmp 16, Go.Operand.tmp 34], argTypes := #[22, 22] }, type := 22, pos := "law.go:46", after := #[{ on := 1, ground := Go.Ground.data }, { on := 19, ground := Go.Ground.data }, { on := 11, ground := Go.Ground.chain }], guard := none }) rfl (by rfl) (fun K hK => ?_) ?_
                · refine step_app V5 rfl (.tmp 16) (.tmp 34) et_offs rfl (w.heap.size + 3) (.slice A' k cap') k vs' rfl HS2.out (fun _ => True) (.slice (some ⟨V4.heap.size, 0, none⟩) 1 1) 1 [.slice (some ⟨gb, 0, none⟩) l.length c3] rfl (Sl.blk (sz := 1) HN1.out (Nat.le_refl 1) (by unfold maxLen; omega) rfl) (by simp [Value.oneCell']) (by omega) (by unfold maxLen; omega) (by have := HP5.out.size; omega) ?_
                  intro A4 c4 V6 hown hg hloc
                  refine hK.out _ _ ?_ (fun hS => ?_)
                  · exact hS.grown hg (by have := HP5.out.size; omega) (fun g e => (HS2.out.lt g e).1)
                  clear hK K
                  try simp only [Act.put, List.setIfInBounds_toArray, List.set_cons_zero, List.set_cons_succ]
                  have hfar : ∀ b, b < w.heap.size + 3 → some b ≠ (Value.slice A' k cap').ownBlock := (fun b hb e => by have := (HS2.out.lt b e.symm).1; omega)
                  have hyV := (HY2.out.grow HP5.out).grown hg (hfar _ (by omega))
                  have yc : V6.cell? ⟨w.heap.size + 1 + 1, 1, none⟩ = some (.slice A' k cap') := hyV.cell 1
                  have yf : V6.frozen? ⟨w.heap.size + 1 + 1, 1, none⟩ = false := hyV.frozen 1
                  have HYV := Lib.hid hyV
                  have HGV := Lib.hid hg
                  have HOV := Lib.hid hown
                  have HBV := HP5
                  have HWV := Lib.hid hS
                  clear hyV hg hown hloc hfar
                  refine wpAnyF_take (i := 21) (oi := { dst := some 36, op := Go.Op.fieldAddr 24 (Go.Operand.tmp 3) 1, type := 0, pos := "law.go:46", after := #[{ on := 0, ground := Go.Ground.phase }, { on := 1, ground := Go.Ground.phase }, { on := 2, ground := Go.Ground.phase }, { on := 3, ground := Go.Ground.phase }, { on := 4, ground := Go.Ground.phase }, { on := 5, ground := Go.Ground.phase }, { on := 6, ground := Go.Ground.phase }, { on := 7, ground := Go.Ground.phase }, { on := 8, ground := Go.Ground.phase }, { on := 9, ground := Go.Ground.phase }, { on := 10, ground := Go.Ground.phase }, { on := 11, ground := Go.Ground.phase }, { on := 12, ground := Go.Ground.phase }, { on := 13, ground := Go.Ground.phase }, { on := 14, ground := Go.Ground.phase }, { on := 15, ground := Go.Ground.phase }, { on := 16, ground := Go.Ground.phase }, { on := 17, ground := Go.Ground.phase }, { on := 18, ground := Go.Ground.phase }, { on := 19, ground := Go.Ground.phase }, { on := 20, ground := Go.Ground.phase }], guard := none }) (v := ?_) rfl (by kernel_rfl) (by kernel_rfl) (by kernel_rfl) (by kernel_rfl) (fun _ _ _ h => h) (Or.inl ⟨by rfl, ?_⟩) hS ?_
                  rotate_left
                  · intro w' hSw; have q1 := (hSw.cell (p := ⟨w.heap.size, 1, none⟩) (by simp <;> omega)).trans x1; have q2 := (hSw.cell (p := ⟨bq, off + k, none⟩) (by simp <;> omega)).trans c0; have q3 : w'.cell? ⟨w.heap.size + 1 + 1, 1, none⟩ = _ := (hSw.cell (p := ⟨w.heap.size + 2, 1, none⟩) (by simp <;> omega)).trans y1; go_simp; try with_reducible rfl
                  try simp only [Act.put, List.setIfInBounds_toArray, List.set_cons_zero, List.set_cons_succ]
                  refine wpAnyF_ready (rs := [22]) (by kernel_rfl) (by simp) ?_
                  refine AllReadyF.fin (o := { dst := none, op := Go.Op.store 22 (Go.Operand.tmp 36) (Go.Operand.tmp 35), type := 0, pos := "law.go:46", after := #[{ on := 21, ground := Go.Ground.data }, { on := 20, ground := Go.Ground.data }, { on := 20, ground := Go.Ground.chain }, { on := 0, ground := Go.Ground.phase }, { on := 1, ground := Go.Ground.phase }, { on := 2, ground := Go.Ground.phase }, { on := 3, ground := Go.Ground.phase }, { on := 4, ground := Go.Ground.phase }, { on := 5, ground := Go.Ground.phase }, { on := 6, ground := Go.Ground.phase }, { on := 7, ground := Go.Ground.phase }, { on := 8, ground := Go.Ground.phase }, { on := 9, ground := Go.Ground.phase }, { on := 10, ground := Go.Ground.phase }, { on := 11, ground := Go.Ground.phase }, { on := 12, ground := Go.Ground.phase }, { on := 13, ground := Go.Ground.phase }, { on := 14, ground := Go.Ground.phase }, { on := 15, ground := Go.Ground.phase }, { on := 16, ground := Go.Ground.phase }, { on := 17, ground := Go.Ground.phase }, { on := 18, ground := Go.Ground.phase }, { on := 19, ground := Go.Ground.phase }, { on := 20, ground := Go.Ground.phase }], guard := none }) rfl (by rfl) (fun K hK => ?_) ?_
                  · go_simp
                    refine hK.out _ _ ?_
                    clear hK K
                    try simp only [Act.put, List.setIfInBounds_toArray, List.set_cons_zero, List.set_cons_succ]
                    refine wpAnyF_done (by kernel_rfl) ?_ _
                    go_wp2_with fail
                    go_roundw
                    case rel =>
                      have hsn := Giv.snoc (bs := bs.take k) (l := l) HLK.out HS2.out (fun j l' hj => let ⟨b, c, h1, h2, h3⟩ := HO'.out j l' hj; ⟨b, c, h1, own_grow h2 HP5.out, h3⟩) (own_mono HO3.out (by omega)) HOL.out.2 HOV.out HGV.out
                      have htk : bs.take (k + 1) = bs.take k ++ [l] := by rw [List.take_add_one, HO.out]; rfl
                      refine ⟨k + 1, A4, c4, by omega, by go_num, ?_, ?_, ?_⟩
                      · rw [htk]
                        exact hsn.far (grownBy_setCell _ ⟨w.heap.size + 1 + 1, 1, none⟩ _) (fun b e => by simp at e; omega)
                      · exact HYV.out.set_ 1 (.slice A4 (k + 1) c4)
                      · exact (HB2.out.trans (HWV.out.mono (B' := w.heap.size + 2) (by omega))).setCell (p := ⟨w.heap.size + 1 + 1, 1, none⟩) (by simp) _
                    case measure => simp [intOf]; omega
                  exact AllReadyF.nil
                exact AllReadyF.nil
              exact AllReadyF.nil
            exact AllReadyF.nil
          exact AllReadyF.nil
        exact AllReadyF.nil
      refine AllReadyF.cons (o := { dst := some 25, op := Go.Op.buildSlice 41 1 #[(0, Go.Operand.tmp 24)], type := 41, pos := "law.go:46", after := #[{ on := 9, ground := Go.Ground.data }], guard := none }) rfl (by rfl) (fun K hK => ?_) ?_
      · go_simp
        refine hK.out _ _ ?_ (fun hS => ?_)
        · exact hS.alloc (by have := HP0.out.size; omega) _
        clear hK K
        try simp only [Act.put, List.setIfInBounds_toArray, List.set_cons_zero, List.set_cons_succ]
        have hL := Blk.new V0 45 #[.int .u32 77, .int .i64 0]
        have hB := HP0.out.alloc (by have := HP0.out.size; omega) (.cells #[.int .u32 77, .int .i64 0] 45)
        obtain ⟨V1, hV⟩ : ∃ V, V = V0.alloc (.cells #[.int .u32 77, .int .i64 0] 45) := ⟨_, rfl⟩
        rw [← hV] at hL hB hS ⊢
        have HL := Lib.hid hL
        have HP1 := Lib.hid hB
        clear hV hL hB
        refine wpAnyF_ready (rs := [2]) (by kernel_rfl) (by simp) ?_
        refine AllReadyF.cons (o := { dst := some 17, op := Go.Op.buildSlice 41 0 #[], type := 41, pos := "law.go:46", after := #[], guard := none }) rfl (by rfl) (fun K hK => ?_) ?_
        · go_simp
          refine hK.out _ _ ?_ (fun hS => ?_)
          · exact hS.alloc (by have := HP1.out.size; omega) _
          clear hK K
          try simp only [Act.put, List.setIfInBounds_toArray, List.set_cons_zero, List.set_cons_succ]
          have hE := own_empty (base := wr.heap.size) V1 (by have := HP1.out.size; omega) 45 2
          have hB := HP1.out.alloc (by have := HP1.out.size; omega) (.cells #[] 45)
          have hL := HL.out.alloc (.cells #[] 45)
          have hne : V0.heap.size < V1.heap.size := HL.out.lt
          obtain ⟨V2, hV⟩ : ∃ V, V = V1.alloc (.cells #[] 45) := ⟨_, rfl⟩
          rw [← hV] at hE hB hS ⊢
          rw [← hV] at hL
          have HL := Lib.hid hL
          clear hL
          have HE := Lib.hid hE
          have HP2 := Lib.hid hB
          have hlE := (hE.lt V1.heap.size rfl).2
          clear hV hE hB
          refine wpAnyF_ready (rs := [8]) (by kernel_rfl) (by simp) ?_
          refine AllReadyF.cons (o := { dst := some 23, op := Go.Op.call { callee := Go.Callee.builtin Go.Builtin.append, args := #[Go.Operand.tmp 17, Go.Operand.tmp 22], argTypes := #[41, 41] }, type := 41, pos := "law.go:46", after := #[{ on := 2, ground := Go.Ground.data }, { on := 7, ground := Go.Ground.data }], guard := none }) rfl (by rfl) (fun K hK => ?_) ?_
          · refine step_app V2 rfl (.tmp 17) (.tmp 22) et_off rfl wr.heap.size (.slice (some ⟨V1.heap.size, 0, none⟩) 0 0) 0 [] rfl HE.out R _ l.length (Off.all l) rfl (show Sl V2 R _ _ _ _ from (HOL.out.grow HP2.out).1) (Off.all_one l) (by omega) (by unfold maxLen; omega) (by have := HP2.out.size; omega) ?_
            intro A2 c2 V3 hown hg hloc
            rw [Nat.zero_add]
            refine hK.out _ _ ?_ (fun hS => ?_)
            · exact hS.grown hg (by have := HP2.out.size; omega) (fun g e => by have := (HE.out.lt g e).1; omega)
            clear hK K
            try simp only [Act.put, List.setIfInBounds_toArray, List.set_cons_zero, List.set_cons_succ]
            rw [Nat.zero_add, List.nil_append] at hown
            have hB := HP2.out.grown hg (by have := HP2.out.size; omega) (fun g e => (HE.out.lt g e).1)
            have HL := Lib.hid (HL.out.grown hg (by simp [Value.ownBlock]; omega))
            have HP3 := Lib.hid hB
            have HO1 := Lib.hid hown
            clear hown hg hloc hB
            refine wpAnyF_ready (rs := [11]) (by kernel_rfl) (by simp) ?_
            refine AllReadyF.cons (o := { dst := some 26, op := Go.Op.call { callee := Go.Callee.builtin Go.Builtin.append, args := #[Go.Operand.tmp 23, Go.Operand.tmp 25], argTypes := #[41, 41] }, type := 41, pos := "law.go:46", after := #[{ on := 8, ground := Go.Ground.data }, { on := 10, ground := Go.Ground.data }, { on := 8, ground := Go.Ground.chain }], guard := none }) rfl (by rfl) (fun K hK => ?_) ?_
            · refine step_app V3 rfl (.tmp 23) (.tmp 25) et_off rfl wr.heap.size (.slice A2 l.length c2) l.length (Off.all l) rfl HO1.out (fun _ => True) (.slice (some ⟨V0.heap.size, 0, none⟩) 1 1) 1 [.int .u32 77, .int .i64 0] rfl (Sl.blk (sz := 2) HL.out (Nat.le_refl 1) (by unfold maxLen; omega) rfl) (by simp [Value.oneCell']) (by omega) (by unfold maxLen; omega) (by have := HP3.out.size; omega) ?_
              intro A3 c3 V4 hown hg hloc
              refine hK.out _ _ ?_ (fun hS => ?_)
              · exact hS.grown hg (by have := HP3.out.size; omega) (fun g e => by have := (HO1.out.lt g e).1; omega)
              clear hK K
              try simp only [Act.put, List.setIfInBounds_toArray, List.set_cons_zero, List.set_cons_succ]
              have hB := HP3.out.grown hg (by have := HP3.out.size; omega) (fun g e => (HO1.out.lt g e).1)
              have hall : Off.all l ++ [.int .u32 77, .int .i64 0] = Off.all (l ++ [⟨77, 0⟩]) := (by simp [Off.all, Off.cells])
              rw [hall] at hown
              obtain ⟨gb, cb, hform, hgb, hgb2⟩ := World.ownsRow.form hown (by omega)
              injection hform with hA3 _ hc3
              subst hA3 hc3
              obtain ⟨_, A9, _, hv3, hnc3, hcm3, _⟩ := Sl.of_own hown
              injection hv3 with hA9 _ hc3'
              subst hc3' hA9
              have hc31 : ((l.length : Nat) : Int) ≤ (c3 : Int) := by omega
              have hc30 : (0 : Int) ≤ ((l.length : Nat) : Int) := by omega
              have HP4 := Lib.hid hB
              have HO2 := Lib.hid hown
              clear hown hg hloc hB hall
              refine wpAnyF_take (i := 18) (oi := { dst := some 33, op := Go.Op.slice 41 (Go.Operand.tmp 26) none (some (Go.Operand.tmp 32)) none, type := 41, pos := "law.go:46", after := #[{ on := 11, ground := Go.Ground.data }, { on := 17, ground := Go.Ground.data }], guard := none }) (v := ?_) rfl (by kernel_rfl) (by kernel_rfl) (by kernel_rfl) (by kernel_rfl) (fun _ _ _ h => h) (Or.inl ⟨by rfl, ?_⟩) hS ?_
              rotate_left
              · intro w' hSw; have q1 := (hSw.cell (p := ⟨w.heap.size, 1, none⟩) (by simp <;> omega)).trans x1; have q2 := (hSw.cell (p := ⟨bq, off + k, none⟩) (by simp <;> omega)).trans c0; have q3 : w'.cell? ⟨w.heap.size + 1 + 1, 1, none⟩ = _ := (hSw.cell (p := ⟨w.heap.size + 2, 1, none⟩) (by simp <;> omega)).trans y1; go_simp; try with_reducible rfl
              try simp only [Act.put, List.setIfInBounds_toArray, List.set_cons_zero, List.set_cons_succ]
              refine wpAnyF_ready (rs := [19]) (by kernel_rfl) (by simp) ?_
              refine AllReadyF.cons (o := { dst := some 34, op := Go.Op.buildSlice 22 1 #[(0, Go.Operand.tmp 33)], type := 22, pos := "law.go:46", after := #[{ on := 18, ground := Go.Ground.data }], guard := none }) rfl (by rfl) (fun K hK => ?_) ?_
              · go_simp
                refine hK.out _ _ ?_ (fun hS => ?_)
                · exact hS.alloc (by have := HP4.out.size; omega) _
                clear hK K
                try simp only [Act.put, List.setIfInBounds_toArray, List.set_cons_zero, List.set_cons_succ]
                have hN := Blk.new V4 41 #[.slice (some ⟨gb, 0, none⟩) l.length c3]
                have hB := HP4.out.alloc (by have := HP4.out.size; omega) (.cells #[.slice (some ⟨gb, 0, none⟩) l.length c3] 41)
                have hO := own_alloc HO2.out (.cells #[.slice (some ⟨gb, 0, none⟩) l.length c3] 41)
                obtain ⟨V5, hV⟩ : ∃ V, V = V4.alloc (.cells #[.slice (some ⟨gb, 0, none⟩) l.length c3] 41) := ⟨_, rfl⟩
                rw [← hV] at hN hB hS hO ⊢
                have HN1 := Lib.hid hN
                have HP5 := Lib.hid hB
                have HO3 := Lib.hid hO
                have HS2 := Lib.hid (own_grow HS.out hB)
                clear hV hN hB hO
                refine wpAnyF_ready (rs := [20]) (by kernel_rfl) (by simp) ?_
                refine AllReadyF.cons (o := { dst := some 35, op := Go.Op.call { callee := Go.Callee.builtin Go.Builtin.append, args := #[Go.Operand.tmp 16, Go.Operand.tmp 34], argTypes := #[22, 22] }, type := 22, pos := "law.go:46", after := #[{ on := 1, ground := Go.Ground.data }, { on := 19, ground := Go.Ground.data }, { on := 11, ground := Go.Ground.chain }], guard := none }) rfl (by rfl) (fun K hK => ?_) ?_
                · refine step_app V5 rfl (.tmp 16) (.tmp 34) et_offs rfl (w.heap.size + 3) (.slice A' k cap') k vs' rfl HS2.out (fun _ => True) (.slice (some ⟨V4.heap.size, 0, none⟩) 1 1) 1 [.slice (some ⟨gb, 0, none⟩) l.length c3] rfl (Sl.blk (sz := 1) HN1.out (Nat.le_refl 1) (by unfold maxLen; omega) rfl) (by simp [Value.oneCell']) (by omega) (by unfold maxLen; omega) (by have := HP5.out.size; omega) ?_
                  intro A4 c4 V6 hown hg hloc
                  refine hK.out _ _ ?_ (fun hS => ?_)
                  · exact hS.grown hg (by have := HP5.out.size; omega) (fun g e => (HS2.out.lt g e).1)
                  clear hK K
                  try simp only [Act.put, List.setIfInBounds_toArray, List.set_cons_zero, List.set_cons_succ]
                  have hfar : ∀ b, b < w.heap.size + 3 → some b ≠ (Value.slice A' k cap').ownBlock := (fun b hb e => by have := (HS2.out.lt b e.symm).1; omega)
                  have hyV := (HY2.out.grow HP5.out).grown hg (hfar _ (by omega))
                  have yc : V6.cell? ⟨w.heap.size + 1 + 1, 1, none⟩ = some (.slice A' k cap') := hyV.cell 1
                  have yf : V6.frozen? ⟨w.heap.size + 1 + 1, 1, none⟩ = false := hyV.frozen 1
                  have HYV := Lib.hid hyV
                  have HGV := Lib.hid hg
                  have HOV := Lib.hid hown
                  have HBV := HP5
                  have HWV := Lib.hid hS
                  clear hyV hg hown hloc hfar
                  refine wpAnyF_take (i := 21) (oi := { dst := some 36, op := Go.Op.fieldAddr 24 (Go.Operand.tmp 3) 1, type := 0, pos := "law.go:46", after := #[{ on := 0, ground := Go.Ground.phase }, { on := 1, ground := Go.Ground.phase }, { on := 2, ground := Go.Ground.phase }, { on := 3, ground := Go.Ground.phase }, { on := 4, ground := Go.Ground.phase }, { on := 5, ground := Go.Ground.phase }, { on := 6, ground := Go.Ground.phase }, { on := 7, ground := Go.Ground.phase }, { on := 8, ground := Go.Ground.phase }, { on := 9, ground := Go.Ground.phase }, { on := 10, ground := Go.Ground.phase }, { on := 11, ground := Go.Ground.phase }, { on := 12, ground := Go.Ground.phase }, { on := 13, ground := Go.Ground.phase }, { on := 14, ground := Go.Ground.phase }, { on := 15, ground := Go.Ground.phase }, { on := 16, ground := Go.Ground.phase }, { on := 17, ground := Go.Ground.phase }, { on := 18, ground := Go.Ground.phase }, { on := 19, ground := Go.Ground.phase }, { on := 20, ground := Go.Ground.phase }], guard := none }) (v := ?_) rfl (by kernel_rfl) (by kernel_rfl) (by kernel_rfl) (by kernel_rfl) (fun _ _ _ h => h) (Or.inl ⟨by rfl, ?_⟩) hS ?_
                  rotate_left
                  · intro w' hSw; have q1 := (hSw.cell (p := ⟨w.heap.size, 1, none⟩) (by simp <;> omega)).trans x1; have q2 := (hSw.cell (p := ⟨bq, off + k, none⟩) (by simp <;> omega)).trans c0; have q3 : w'.cell? ⟨w.heap.size + 1 + 1, 1, none⟩ = _ := (hSw.cell (p := ⟨w.heap.size + 2, 1, none⟩) (by simp <;> omega)).trans y1; go_simp; try with_reducible rfl
                  try simp only [Act.put, List.setIfInBounds_toArray, List.set_cons_zero, List.set_cons_succ]
                  refine wpAnyF_ready (rs := [22]) (by kernel_rfl) (by simp) ?_
                  refine AllReadyF.fin (o := { dst := none, op := Go.Op.store 22 (Go.Operand.tmp 36) (Go.Operand.tmp 35), type := 0, pos := "law.go:46", after := #[{ on := 21, ground := Go.Ground.data }, { on := 20, ground := Go.Ground.data }, { on := 20, ground := Go.Ground.chain }, { on := 0, ground := Go.Ground.phase }, { on := 1, ground := Go.Ground.phase }, { on := 2, ground := Go.Ground.phase }, { on := 3, ground := Go.Ground.phase }, { on := 4, ground := Go.Ground.phase }, { on := 5, ground := Go.Ground.phase }, { on := 6, ground := Go.Ground.phase }, { on := 7, ground := Go.Ground.phase }, { on := 8, ground := Go.Ground.phase }, { on := 9, ground := Go.Ground.phase }, { on := 10, ground := Go.Ground.phase }, { on := 11, ground := Go.Ground.phase }, { on := 12, ground := Go.Ground.phase }, { on := 13, ground := Go.Ground.phase }, { on := 14, ground := Go.Ground.phase }, { on := 15, ground := Go.Ground.phase }, { on := 16, ground := Go.Ground.phase }, { on := 17, ground := Go.Ground.phase }, { on := 18, ground := Go.Ground.phase }, { on := 19, ground := Go.Ground.phase }, { on := 20, ground := Go.Ground.phase }], guard := none }) rfl (by rfl) (fun K hK => ?_) ?_
                  · go_simp
                    refine hK.out _ _ ?_
                    clear hK K
                    try simp only [Act.put, List.setIfInBounds_toArray, List.set_cons_zero, List.set_cons_succ]
                    refine wpAnyF_done (by kernel_rfl) ?_ _
                    go_wp2_with fail
                    go_roundw
                    case rel =>
                      have hsn := Giv.snoc (bs := bs.take k) (l := l) HLK.out HS2.out (fun j l' hj => let ⟨b, c, h1, h2, h3⟩ := HO'.out j l' hj; ⟨b, c, h1, own_grow h2 HP5.out, h3⟩) (own_mono HO3.out (by omega)) HOL.out.2 HOV.out HGV.out
                      have htk : bs.take (k + 1) = bs.take k ++ [l] := by rw [List.take_add_one, HO.out]; rfl
                      refine ⟨k + 1, A4, c4, by omega, by go_num, ?_, ?_, ?_⟩
                      · rw [htk]
                        exact hsn.far (grownBy_setCell _ ⟨w.heap.size + 1 + 1, 1, none⟩ _) (fun b e => by simp at e; omega)
                      · exact HYV.out.set_ 1 (.slice A4 (k + 1) c4)
                      · exact (HB2.out.trans (HWV.out.mono (B' := w.heap.size + 2) (by omega))).setCell (p := ⟨w.heap.size + 1 + 1, 1, none⟩) (by simp) _
                    case measure => simp [intOf]; omega
                  exact AllReadyF.nil
                exact AllReadyF.nil
              exact AllReadyF.nil
            exact AllReadyF.nil
          exact AllReadyF.nil
        exact AllReadyF.nil
      exact AllReadyF.nil
    · obtain rfl : k = bs.length := by omega
      rw [List.take_length] at HGV
      have hrr := HR.out.below hb (by omega)
      have r0 : wr.cell? ⟨w.heap.size + 1, 0, none⟩ = some (.int .i64 0) := hrr.cell 0
      have r1 : wr.cell? ⟨w.heap.size + 1, 1, none⟩ = some (.slice none 0 0) := hrr.cell 1
      have rf := hrr.frozen
      have hfin := ((hrr.set_ 0 (.int .i64 n)).set_ 1 (.slice A' bs.length cap'))
      have q0 := hfin.cell 0
      have q1 := hfin.cell 1
      simp at q0 q1
      clear hx hy hb hbw hrr hfin hgv
      go_wp2_with fail
      refine bodyPost_ret (v := .agg #[.int .i64 n, .slice A' bs.length cap']) (by simp [results, Try.results15, go_sem, q0, q1]) rfl ⟨_, _, rfl, ?_, ?_⟩
      · exact ((HGV.out.far (grownBy_setCell _ ⟨w.heap.size + 1, 0, none⟩ _) (fun b e => by simp at e; omega)).far (grownBy_setCell _ ⟨w.heap.size + 1, 1, none⟩ _) (fun b e => by simp at e; omega)).mono (by omega)
      · exact (HBW2.out.setCell (p := ⟨w.heap.size + 1, 0, none⟩) (by simp) _).setCell (p := ⟨w.heap.size + 1, 1, none⟩) (by simp) _
end Go.Proofs.Ytcigobiolbojhaa.Vb

/- Law 17's own: stays. -/
namespace Go.Proofs.Ytcigobiolbojhaa.Vb
open Go.RowKit

set_option maxRecDepth 100000 in
set_option maxHeartbeats 1600000 in
theorem stays_any (n : Int) (bs : List (List Off)) (vy vx : Value) (lo : Nat) (R : Nat → Prop) (w : World) (hy : Giv w lo vy bs) (hx : Buys w R vx bs) (hsm : Small bs) :
    Calls Try.prog 19 #[.agg #[.int .i64 n, vy], .agg #[.int .i64 n, vx]] w fun e w' => e = .returned (.bool true) ∧ Below w.heap.size w w' := by
  have HGY := Lib.hid hy
  have HGX := Lib.hid hx
  have HSM := Lib.hid hsm.2
  have hlen64 := hsm.1
  obtain ⟨ws, hsy, hwy⟩ := hy
  obtain ⟨vs, ⟨hlen, A, cap, rfl, hncap, hcap, hcells⟩, hvs⟩ := hx
  obtain ⟨_, A', cap', rfl, hncap', hcap', hcells'⟩ := Sl.of_own hsy
  unfold maxLen at hcap hcap'
  have HC := Lib.hid hcells
  have HC' := Lib.hid hcells'
  have HV := Lib.hid hvs
  have HV' := Lib.hid hwy
  clear hcells hcells' hvs hwy hlen hsy hsm
  go_enter Try.func19, Try.ntmps19
  go_wp2
  go_loopw [5] (fun i wr => ∃ k : Nat, k ≤ bs.length ∧ i = .int .i64 k ∧ Below (w.heap.size + 2) ((w.alloc (.cells #[.int .i64 n, .slice A' bs.length cap'] 24)).alloc (.cells #[.int .i64 n, .slice A bs.length cap] 24)) wr) (fun i _ => bs.length - (intOf i).toNat)
  case atStart => exact ⟨0, Nat.zero_le _, rfl, Below.refl _ _⟩
  case round =>
    obtain ⟨k, hk, rfl, hb⟩ := hrel
    obtain ⟨cx0, cx1, cy0, cy1, fx, fy, hs, hbw⟩ := two_new hb
    have HB := Lib.hid hb
    have HBW := Lib.hid hbw
    by_cases hlt : k < bs.length
    · obtain ⟨bb, off, rfl, _, hbb, hcs⟩ := HC.out (by omega)
      obtain ⟨bb', off', rfl, _, hbb', hcs'⟩ := HC'.out (by omega)
      obtain ⟨l, ho⟩ : ∃ l, bs[k]? = some l := ⟨_, List.getElem?_eq_getElem hlt⟩
      have hll := HSM.out l (List.mem_of_getElem? ho)
      obtain ⟨u, hu, hol⟩ := HV.out k l ho
      obtain ⟨gb, gc, hgu, hgo, hgw⟩ := HV'.out k l ho
      have c0 := (hbw.cell hbb).trans (hcs _ _ hu)
      have d0 := (hbw.cell hbb').trans (hcs' _ _ hgu)
      obtain ⟨⟨_, A1, cap1, rfl, _⟩, _⟩ := hol
      obtain ⟨_, _, _, hv1, hnc1, hcm1, hcc1⟩ := Sl.of_own hgo
      injection hv1 with hA1 _ hc1
      subst hA1 hc1
      obtain ⟨b1, o1, hb1, _, hlt1, hcc⟩ := hcc1 (by omega)
      injection hb1 with hb1
      injection hb1 with hb1 ho1 _
      subst hb1 ho1
      have h77 : (Off.all (l ++ [⟨77, 0⟩]))[l.length * 2]? = some (.int .u32 77) := Off.all_fst (l ++ [⟨77, 0⟩]) l.length ⟨77, 0⟩ (by simp)
      have g77 := (hbw.cell (p := ⟨gb, 0 + l.length * 2, none⟩) hlt1).trans (hcc _ _ h77)
      have hwr : IntKind.i64.wrap ((l.length : Int) + 1) = l.length + 1 := IntWalk.i64_in _ (by omega)
      have hn0 : (0 : Int) ≤ (l.length : Int) := by omega
      have hn1 : (l.length : Int) + 1 ≤ (gc : Int) := by omega
      have hn2 : (0 : Int) ≤ (l.length : Int) + 1 := by omega
      have hn3 : ((l.length : Int) + 1).toNat = l.length + 1 := by omega
      have hn4 : (l.length : Int) < ((l.length + 1 : Nat) : Int) := by omega
      rw [Nat.zero_add] at g77
      clear hcs hcs' hu hgu hgo ho hcc hcc1 h77 hb hbw hgw
      go_wp2_with fail
      go_quiet (fail)
      go_wp2_with fail
      go_roundw
      case rel =>
        exact ⟨k + 1, by omega, by go_num, below_drewN HB.out _⟩
      case measure => simp [intOf]; omega
    · clear hb hbw
      go_wp2_with (go_at_call 83; refine (refSameInst_true n bs _ _ _ _ _ (HGY.out.buys.grow HBW.out) (HGX.out.grow HBW.out)).mono ?_; rintro e w1 ⟨rfl, hb1⟩)
      go_ret
      exact ⟨rfl, HBW.out.trans (hb1.mono HBW.out.size)⟩
end Go.Proofs.Ytcigobiolbojhaa.Vb

/- Law 17: what is asked, whether the instance may be or not. -/
namespace Go.Proofs.Ytcigobiolbojhaa.Vb
open Go.RowKit

theorem checkE_bd (n : Int) (l : List Off) : 0 ≤ checkE n l ∧ checkE n l ≤ 1000 := by
  unfold checkE
  repeat' split
  all_goals omega
theorem instLoop_bd (n : Int) : ∀ bs : List (List Off), 0 ≤ instLoop n bs ∧ instLoop n bs ≤ 1000 := by
  intro bs
  induction bs with
  | nil => simp [instLoop]
  | cons l bs ih =>
    have := checkE_bd n l
    unfold instLoop
    repeat' split
    all_goals omega
theorem instE_bd (n : Int) (bs : List (List Off)) : 0 ≤ instE n bs ∧ instE n bs ≤ 1000 := by
  have := instLoop_bd n bs
  unfold instE
  repeat' split
  all_goals omega
theorem withE_bd (n : Int) (bs : List (List Off)) (i : Int) (l : List Off) : 0 ≤ withE n bs i l ∧ withE n bs i l ≤ 1000 := by
  have := instE_bd n bs
  have := checkE_bd n l
  unfold withE
  repeat' split
  all_goals omega

def gainsL (n : Int) (bs : List (List Off)) : List Int := if instE n bs = 0 then gainsC n bs else []
def pivotL (n : Int) (bs : List (List Off)) : List Int := if instE n bs = 0 then pivotC n bs else []
def choiceL (n : Int) (bs : List (List Off)) : List Int := if instE n bs = 0 then bestC n bs else []
def paysL (n : Int) (bs : List (List Off)) : List Int := if instE n bs = 0 then paysC n bs else []
def worthL (n : Int) (bs : List (List Off)) : Int := if instE n bs = 0 then W bs (allOf n) else 0
theorem bestC_len (n : Int) (bs : List (List Off)) : (bestC n bs).length = bs.length := choose_length _ _
theorem gainsC_len (n : Int) (bs : List (List Off)) : (gainsC n bs).length = bs.length := by simp [gainsC]

section
variable (n : Int) (bs : List (List Off)) (v : Value) (R : Nat → Prop) (w : World)
def AskPost (w : World) (t : TypeId) (l : List Int) (er : Int) (e : Ending) (w' : World) : Prop :=
  ∃ A' cap', e = .returned (.tuple #[.slice A' l.length cap', .int .i64 er]) ∧ w'.ownsRow w.heap.size t 1 (.slice A' l.length cap') l.length (ints l) ∧ Below w.heap.size w w'
theorem ask_nil {w w' : World} {t : TypeId} {l : List Int} {er er' : Int} {e : Ending} (h : l = []) (he : er = er') (h1 : e = .returned (.tuple #[.slice none 0 0, .int .i64 er'])) (h2 : Below w.heap.size w w') : AskPost w t l er e w' := by
  subst h he
  exact ⟨none, 0, h1, World.ownsRow_nil _ _ _ _, h2⟩
theorem ask_some {w w' : World} {t : TypeId} {l l' : List Int} {m : Nat} {er : Int} {e : Ending} (h : l = l') (hm : l'.length = m) (he : er = 0)
    (h1 : ∃ A' cap', e = .returned (.tuple #[.slice A' m cap', .int .i64 0]) ∧ w'.ownsRow w.heap.size t 1 (.slice A' m cap') m (ints l') ∧ Below w.heap.size w w') : AskPost w t l er e w' := by
  subst h he hm
  exact h1
theorem gains_all (hl : Buys w R v bs) : Calls Try.prog 26 #[.agg #[.int .i64 n, v]] w (AskPost w 2 (gainsL n bs) (instE n bs)) := by
  by_cases hi : instE n bs = 0
  · exact (gains_ok n bs v R w hl hi).mono fun e w' h => ask_some (if_pos hi) (gainsC_len n bs) hi h
  · exact (gains_err n bs v R w hl hi).mono fun e w' h => ask_nil (if_neg hi) rfl h.1 h.2
theorem refGains_all (hl : Buys w R v bs) : Calls Try.prog 27 #[.agg #[.int .i64 n, v]] w (AskPost w 2 (gainsL n bs) (instE n bs)) := by
  by_cases hi : instE n bs = 0
  · exact (refGains_ok n bs v R w hl hi).mono fun e w' h => ask_some (if_pos hi) (gainsC_len n bs) hi h
  · exact (refGains_err n bs v R w hl hi).mono fun e w' h => ask_nil (if_neg hi) rfl h.1 h.2
theorem pivotal_all (hl : Buys w R v bs) : Calls Try.prog 28 #[.agg #[.int .i64 n, v]] w (AskPost w 3 (pivotL n bs) (instE n bs)) := by
  by_cases hi : instE n bs = 0
  · exact (pivotal_ok n bs v R w hl hi).mono fun e w' h => ask_some (if_pos hi) rfl hi h
  · exact (pivotal_err n bs v R w hl hi).mono fun e w' h => ask_nil (if_neg hi) rfl h.1 h.2
theorem refPivotal_all (hl : Buys w R v bs) : Calls Try.prog 29 #[.agg #[.int .i64 n, v]] w (AskPost w 3 (pivotL n bs) (instE n bs)) := by
  by_cases hi : instE n bs = 0
  · exact (refPivotal_ok n bs v R w hl hi).mono fun e w' h => ask_some (if_pos hi) rfl hi h
  · exact (refPivotal_err n bs v R w hl hi).mono fun e w' h => ask_nil (if_neg hi) rfl h.1 h.2

def CostsPost (n : Int) (bs : List (List Off)) (w : World) (e : Ending) (w' : World) : Prop :=
  ∃ A1 c1 A2 c2, e = .returned (.tuple #[.agg #[.slice A1 (choiceL n bs).length c1, .int .i64 (worthL n bs), .slice A2 (choiceL n bs).length c2], .int .i64 (instE n bs)]) ∧
    w'.ownsRow w.heap.size 3 1 (.slice A1 (choiceL n bs).length c1) (choiceL n bs).length (ints (choiceL n bs)) ∧
    w'.ownsRow w.heap.size 2 1 (.slice A2 (choiceL n bs).length c2) (choiceL n bs).length (ints (paysL n bs)) ∧ Below w.heap.size w w'
theorem costs_all (hl : Buys w R v bs) : Calls Try.prog 21 #[.agg #[.int .i64 n, v]] w (CostsPost n bs w) := by
  by_cases hi : instE n bs = 0
  · refine (costs_ok n bs v R w hl hi).mono fun e w' ⟨A1, c1, A2, c2, h1, h2, h3, h4⟩ => ?_
    have hc : choiceL n bs = bestC n bs := if_pos hi
    have hp : paysL n bs = paysC n bs := if_pos hi
    have hw : worthL n bs = W bs (allOf n) := if_pos hi
    unfold CostsPost
    rw [hc, hp, hw, hi, bestC_len]
    exact ⟨A1, c1, A2, c2, h1, h2, h3, h4⟩
  · refine (costs_err n bs v R w hl hi).mono fun e w' ⟨h1, h4⟩ => ?_
    have hc : choiceL n bs = [] := if_neg hi
    have hp : paysL n bs = [] := if_neg hi
    have hw : worthL n bs = 0 := if_neg hi
    unfold CostsPost
    rw [hc, hp, hw]
    exact ⟨none, 0, none, 0, h1, World.ownsRow_nil _ _ _ _, World.ownsRow_nil _ _ _ _, h4⟩
theorem refCosts_all (hl : Buys w R v bs) : Calls Try.prog 17 #[.agg #[.int .i64 n, v]] w (CostsPost n bs w) := by
  by_cases hi : instE n bs = 0
  · refine (refCosts_ok n bs v R w hl hi).mono fun e w' ⟨A1, c1, A2, c2, h1, h2, h3, h4⟩ => ?_
    have hc : choiceL n bs = bestC n bs := if_pos hi
    have hp : paysL n bs = paysC n bs := if_pos hi
    have hw : worthL n bs = W bs (allOf n) := if_pos hi
    unfold CostsPost
    rw [hc, hp, hw, hi, bestC_len]
    exact ⟨A1, c1, A2, c2, h1, h2, h3, h4⟩
  · refine (refCosts_err n bs v R w hl hi).mono fun e w' ⟨h1, h4⟩ => ?_
    have hc : choiceL n bs = [] := if_neg hi
    have hp : paysL n bs = [] := if_neg hi
    have hw : worthL n bs = 0 := if_neg hi
    unfold CostsPost
    rw [hc, hp, hw]
    exact ⟨none, 0, none, 0, h1, World.ownsRow_nil _ _ _ _, World.ownsRow_nil _ _ _ _, h4⟩
end

theorem greatB_small {bs : List (List Off)} (h : greatB bs = false) : bs.length ≤ 40 ∧ ∀ l ∈ bs, l.length ≤ 40 := by
  unfold greatB at h
  simp only [Bool.or_eq_false_iff, decide_eq_false_iff_not, List.any_eq_false, decide_eq_true_eq] at h
  exact ⟨by omega, fun l hl => by have := h.1 l hl; omega⟩
end Go.Proofs.Ytcigobiolbojhaa.Vb

/- Law 17's own: works. -/
namespace Go.Proofs.Ytcigobiolbojhaa.Vb
open Go.RowKit

theorem neq_func_nil (fn : Fn) (fi ca : Array Value) (W : World) : (binOp .neq 29 (.func fn fi ca) .nilFunc).run Try.prog W = .ok (.bool true) W := by kernel_rfl

set_option maxRecDepth 100000 in
set_option maxHeartbeats 1600000 in
theorem works_any (w : World) : Calls Try.prog 14 #[] w fun e w' => e = .returned (.bool true) ∧ Below w.heap.size w w' := by
  have hnf := neq_func_nil
  go_enter Try.func14, Try.ntmps14
  go_wp2_with (first
    | (go_at_call 76; have := HWO; refine (three_any w5).mono ?_; rintro e w6 ⟨T3, k3, rfl, ht3, hb6⟩; have hs6 := hb6.size; have HT3 := Lib.hid ht3; have HB6 := Lib.hid (HB5.out.trans (hb6.mono HB5.out.size)); have HQ6 := Lib.hid (HQ5.out.grow hb6); have HD6 := Lib.hid (own_grow HD5.out hb6); clear hb6 ht3)
    | (go_at_call 76; have := HC2; refine (three_any _).mono ?_; rintro e w4 ⟨T2, k2, rfl, ht2, hb4⟩; have hs4 := hb4.size; simp at hs4; have HT2 := Lib.hid ht2; have HQ4 := Lib.hid (HQ2.out.grow hb4); have HD4 := Lib.hid (own_grow (own_alloc HP2.out _) hb4); have HB4 := Lib.hid ((HB2.out.alloc HB2.out.size _).trans (hb4.mono (by have := HB2.out.size; simp; omega))); clear hb4 ht2)
    | (go_at_call 76; refine (three_any w).mono ?_; rintro e w1 ⟨T1, k1, rfl, ht1, hb1⟩; have HT1 := Lib.hid ht1; have HB1 := Lib.hid hb1; clear hb1 ht1)
    | (go_at_call 21; refine (costs_ok 2 bs3 _ _ _ HT1.out bs3_inst).mono ?_; rintro e w2 ⟨AC, cC, AP, cP, rfl, hownC, hownP, hb2⟩; rw [bs3_W]; have HC2 := Lib.hid hownC; have HP2 := Lib.hid hownP; have HB2 := Lib.hid (HB1.out.trans (hb2.mono HB1.out.size)); have HQ2 := Lib.hid (Blk.new w2 36 #[.slice AC 3 cC, .int .i64 11, .slice AP 3 cP]); clear hb2 hownC hownP)
    | (go_at_call 24; refine (vcgWithout_any 2 bs3 0 _ _ _ HT2.out).mono ?_; rintro e w5 ⟨rfl, hb5⟩; rw [bs3_wo, bs3_with]; have hs5 := hb5.size; have HWO := Lib.hid True.intro; have HQ5 := Lib.hid (HQ4.out.grow hb5); have HD5 := Lib.hid (own_grow HD4.out hb5); have HB5 := Lib.hid (HB4.out.trans (hb5.mono HB4.out.size)); clear hb5)
    | (go_at_call 16; refine (each_ok 2 bs3 _ _ _ HT3.out bs3_inst).mono ?_; rintro e w7 ⟨pb, pp, rfl, _, _, _, hb7⟩; have hD7 := own_grow HD6.out hb7; rw [bs3_pays] at hD7; obtain ⟨g, rfl, _, _, _, _, _⟩ := own_some hD7 (by decide); obtain ⟨q1, q2, c0, c1, c2⟩ : w7.cell? ⟨w2.heap.size, 1, none⟩ = some (.int .i64 11) ∧ w7.cell? ⟨w2.heap.size, 2, none⟩ = some (.slice (some ⟨g, 0, none⟩) 3 cP) ∧ w7.cell? ⟨g, 0, none⟩ = some (.int .i64 5) ∧ w7.cell? ⟨g, 1, none⟩ = some (.int .i64 4) ∧ w7.cell? ⟨g, 2, none⟩ = some (.int .i64 0) := ⟨(HQ6.out.grow hb7).cell 1, (HQ6.out.grow hb7).cell 2, hD7.cellAt 0 (by decide), hD7.cellAt 1 (by decide), hD7.cellAt 2 (by decide)⟩; have HB7 := Lib.hid (HB6.out.trans (hb7.mono HB6.out.size)); clear hb7 hD7)
    | (go_at_call 18; refine (num_any 0 (by decide) (by decide) _).mono ?_; rintro e w9 ⟨rfl, rfl⟩))
  go_ret
  exact ⟨rfl, HB7.out⟩
end Go.Proofs.Ytcigobiolbojhaa.Vb

/- Law 17: VcgAsks, walked. -/
namespace Go.Proofs.Ytcigobiolbojhaa.Vb
open Go.RowKit

theorem Sl.any {w : World} {R : Nat → Prop} {v : Value} {n sz : Nat} {xs : List Value} (h : Sl w R v n sz xs) : Sl w (fun _ => True) v n sz xs := h.mono fun _ _ _ => trivial
theorem Sl.int_at {w : World} {R : Nat → Prop} {A : Option Addr} {n c k : Nat} {l : List Int} (h : Sl w R (.slice A n c) n 1 (ints l)) (hk : k < n) :
    ∃ b off x, A = some ⟨b, off, none⟩ ∧ b < w.heap.size ∧ l[k]? = some x ∧ w.cell? ⟨b, off + k, none⟩ = some (.int .i64 x) := by
  obtain ⟨hl, A', c', hv, _, _, hc⟩ := h
  injection hv with hA _ _
  subst hA
  obtain ⟨b, off, hA, _, hlt, hcs⟩ := hc (by omega)
  have hl' : k < l.length := by simp [ints] at hl; omega
  exact ⟨b, off, l[k], hA, hlt, List.getElem?_eq_getElem hl', hcs k _ (by simp [ints, hl'])⟩
theorem ints_at {l : List Int} {k : Nat} {c : Int} (h : l[k]? = some c) : (ints l)[k]? = some (.int .i64 c) := by simp [ints, h]

set_option maxRecDepth 100000 in
set_option maxHeartbeats 3200000 in
theorem asks_walk (n : Int) (bs : List (List Off)) (v : Value) (R : Nat → Prop) (buyer : Int) (w : World) (hl : Buys w R v bs) :
    Calls Try.prog 5 #[.agg #[.int .i64 n, v], .int .i64 buyer] w fun e w' => e = .returned (.bool true) ∧ Below w.heap.size w w' := by
  obtain ⟨_, ⟨_, A, cap, rfl, _⟩, _⟩ := id hl
  have HB := Lib.hid hl
  clear hl
  cases hg : greatB bs with
  | true =>
    have HG := Lib.hid hg
    clear hg
    go_enter Try.func5, Try.ntmps5
    go_wp2_with fail
    refine (great_any n bs _ R _ (HB.out.alloc _)).mono ?_
    rintro e w1 ⟨rfl, hb1⟩
    rw [HG.out]
    have HB1 := Lib.hid (((Below.refl _ _).alloc (Nat.le_refl _) _).trans (hb1.mono (B' := w.heap.size) (by simp)))
    clear hb1
    go_wp2_with fail
    refine (works_any _).mono ?_
    rintro e w2 ⟨rfl, hb2⟩
    have HB2 := Lib.hid (HB1.out.trans (hb2.mono HB1.out.size))
    clear hb2
    go_wp2_with fail
    go_ret
    exact ⟨rfl, HB2.out⟩
  | false =>
    obtain ⟨hs1, hs2⟩ := greatB_small hg
    have HSM := Lib.hid (show Small bs from ⟨by omega, fun l hl => by have := hs2 l hl; omega⟩)
    have HG := Lib.hid hg
    obtain ⟨hi0, hi1⟩ := instE_bd n bs
    obtain ⟨hw0, hw1⟩ := withE_bd n bs buyer []
    obtain ⟨ie, hie⟩ : ∃ ie, ie = instE n bs := ⟨_, rfl⟩
    obtain ⟨we, hwe⟩ : ∃ we, we = withE n bs buyer [] := ⟨_, rfl⟩
    rw [← hie] at hi0 hi1
    rw [← hwe] at hw0 hw1
    have HIE := Lib.hid hie
    have HWE := Lib.hid hwe
    have hgl : (gainsL n bs).length ≤ 40 := by
      unfold gainsL
      split
      · rw [gainsC_len]; omega
      · simp
    have hpl : (pivotL n bs).length ≤ 40 := by
      unfold pivotL pivotC pivotTo
      split
      · refine Nat.le_trans (m := bs.length) ?_ hs1
        rw [List.length_map]
        refine Nat.le_trans (List.length_filter_le _ _) (by simp)
      · simp
    obtain ⟨gl, hgle⟩ : ∃ gl, gl = gainsL n bs := ⟨_, rfl⟩
    obtain ⟨pl, hple⟩ : ∃ pl, pl = pivotL n bs := ⟨_, rfl⟩
    rw [← hgle] at hgl
    rw [← hple] at hpl
    have HGL := Lib.hid hgle
    have HPL := Lib.hid hple
    clear hg hie hwe hgle hple hs2
    go_enter Try.func5, Try.ntmps5
    go_wp2_with fail
    refine (great_any n bs _ R _ (HB.out.alloc _)).mono ?_
    rintro e w1 ⟨rfl, hb1⟩
    rw [HG.out]
    have hX := (Blk.new w 24 #[.int .i64 n, .slice A bs.length cap]).grow hb1
    have x0 : w1.cell? ⟨w.heap.size, 0, none⟩ = some (.int .i64 n) := hX.cell 0
    have x1 : w1.cell? ⟨w.heap.size, 1, none⟩ = some (.slice A bs.length cap) := hX.cell 1
    have HX := Lib.hid hX
    have HB1 := Lib.hid (((Below.refl _ _).alloc (Nat.le_refl _) _).trans (hb1.mono (B' := w.heap.size) (by simp)))
    clear hb1 hX
    go_wp2_with fail
    refine (given_any n bs _ R w1 (HB.out.grow HB1.out) HSM.out).mono ?_
    rintro e w2 ⟨A2, k2, rfl, hgv, hb2⟩
    have HX2 := Lib.hid (HX.out.grow hb2)
    have HV2 := Lib.hid hgv
    have HB2 := Lib.hid (HB1.out.trans (hb2.mono HB1.out.size))
    clear hb2 hgv x0 x1
    go_wp2_with fail
    refine (vcgWithout_any n bs buyer _ (fun _ => True) _ (HV2.out.buys.alloc _)).mono ?_
    rintro e w3 ⟨rfl, hb3⟩
    rw [← HWE.out]
    have hX := (HX2.out.alloc _).grow hb3
    have hY := (Blk.new w2 24 #[.int .i64 n, .slice A2 bs.length k2]).grow hb3
    have x0 : w3.cell? ⟨w.heap.size, 0, none⟩ = some (.int .i64 n) := hX.cell 0
    have x1 : w3.cell? ⟨w.heap.size, 1, none⟩ = some (.slice A bs.length cap) := hX.cell 1
    have HX3 := Lib.hid hX
    have HY3 := Lib.hid hY
    have HV3 := Lib.hid ((HV2.out.grow ((Below.refl _ _).alloc (Nat.le_refl _) _)).grow hb3)
    have HB3 := Lib.hid ((HB2.out.alloc HB2.out.size _).trans (hb3.mono (B' := w.heap.size) (by have := HB2.out.size; simp; omega)))
    clear hX hY hb3
    go_wp2_with fail
    refine (refWithout_any n bs buyer _ R _ (HB.out.grow HB3.out)).mono ?_
    rintro e w4 ⟨rfl, hb4⟩
    rw [← HWE.out]
    have hX := HX3.out.grow hb4
    have hY := HY3.out.grow hb4
    have y0 : w4.cell? ⟨w2.heap.size, 0, none⟩ = some (.int .i64 n) := hY.cell 0
    have y1 : w4.cell? ⟨w2.heap.size, 1, none⟩ = some (.slice A2 bs.length k2) := hY.cell 1
    have HX4 := Lib.hid hX
    have HY4 := Lib.hid hY
    have HV4 := Lib.hid (HV3.out.grow hb4)
    have HB4 := Lib.hid (HB3.out.trans (hb4.mono HB3.out.size))
    clear hX hY hb4 x0 x1
    go_wp2_with fail
    refine (gains_all n bs _ (fun _ => True) _ HV4.out.buys).mono ?_
    rintro e w5 ⟨AG, kG, rfl, hownG, hb5⟩
    rw [← HIE.out]
    rw [← HGL.out] at hownG ⊢
    have hX := HX4.out.grow hb5
    have x0 : w5.cell? ⟨w.heap.size, 0, none⟩ = some (.int .i64 n) := hX.cell 0
    have x1 : w5.cell? ⟨w.heap.size, 1, none⟩ = some (.slice A bs.length cap) := hX.cell 1
    have HX5 := Lib.hid hX
    have HY5 := Lib.hid (HY4.out.grow hb5)
    have HV5 := Lib.hid (HV4.out.grow hb5)
    have HC5 := Lib.hid (Sl.of_own hownG).any
    have HB5 := Lib.hid (HB4.out.trans (hb5.mono HB4.out.size))
    clear hX hb5 y0 y1 hownG
    go_wp2_with fail
    refine (refGains_all n bs _ R _ (HB.out.grow HB5.out)).mono ?_
    rintro e w6 ⟨AH, kH, rfl, hownH, hb6⟩
    rw [← HIE.out]
    rw [← HGL.out] at hownH ⊢
    have hY := HY5.out.grow hb6
    have y0 : w6.cell? ⟨w2.heap.size, 0, none⟩ = some (.int .i64 n) := hY.cell 0
    have y1 : w6.cell? ⟨w2.heap.size, 1, none⟩ = some (.slice A2 bs.length k2) := hY.cell 1
    have HX6 := Lib.hid (HX5.out.grow hb6)
    have HY6 := Lib.hid hY
    have HV6 := Lib.hid (HV5.out.grow hb6)
    have HC6 := Lib.hid (HC5.out.grow hb6)
    have HD6 := Lib.hid (Sl.of_own hownH).any
    have HB6 := Lib.hid (HB5.out.trans (hb6.mono HB5.out.size))
    clear hY hb6 x0 x1 hownH
    go_wp2_with fail
    refine (pivotal_all n bs _ (fun _ => True) _ HV6.out.buys).mono ?_
    rintro e w7 ⟨AL, kL, rfl, hownL, hb7⟩
    rw [← HIE.out]
    rw [← HPL.out] at hownL ⊢
    have hX := HX6.out.grow hb7
    have x0 : w7.cell? ⟨w.heap.size, 0, none⟩ = some (.int .i64 n) := hX.cell 0
    have x1 : w7.cell? ⟨w.heap.size, 1, none⟩ = some (.slice A bs.length cap) := hX.cell 1
    have HX7 := Lib.hid hX
    have HY7 := Lib.hid (HY6.out.grow hb7)
    have HV7 := Lib.hid (HV6.out.grow hb7)
    have HC7 := Lib.hid (HC6.out.grow hb7)
    have HD7 := Lib.hid (HD6.out.grow hb7)
    have HL7 := Lib.hid (Sl.of_own hownL).any
    have HB7 := Lib.hid (HB6.out.trans (hb7.mono HB6.out.size))
    clear hX hb7 y0 y1 hownL
    go_wp2_with fail
    refine (refPivotal_all n bs _ R _ (HB.out.grow HB7.out)).mono ?_
    rintro e w8 ⟨AM, kM, rfl, hownM, hb8⟩
    rw [← HIE.out]
    rw [← HPL.out] at hownM ⊢
    have hX := HX7.out.grow hb8
    have hY := HY7.out.grow hb8
    have x0 : w8.cell? ⟨w.heap.size, 0, none⟩ = some (.int .i64 n) := hX.cell 0
    have x1 : w8.cell? ⟨w.heap.size, 1, none⟩ = some (.slice A bs.length cap) := hX.cell 1
    have y0 : w8.cell? ⟨w2.heap.size, 0, none⟩ = some (.int .i64 n) := hY.cell 0
    have y1 : w8.cell? ⟨w2.heap.size, 1, none⟩ = some (.slice A2 bs.length k2) := hY.cell 1
    have HV8 := Lib.hid (HV7.out.grow hb8)
    have HC8 := Lib.hid (HC7.out.grow hb8)
    have HD8 := Lib.hid (HD7.out.grow hb8)
    have HL8 := Lib.hid (HL7.out.grow hb8)
    have HM8 := Lib.hid (Sl.of_own hownM).any
    have HB8 := Lib.hid (HB7.out.trans (hb8.mono HB7.out.size))
    clear hX hY hb8 hownM
    go_wp2_with (first
      | (go_at_call 18; refine (num_any _ (by omega) (by omega) _).mono ?_; rintro e w9 ⟨rfl, rfl⟩)
      | (go_at_call 19; refine (stays_any n bs _ _ _ R _ HV8.out (HB.out.grow HB8.out) HSM.out).mono ?_; rintro e w9 ⟨rfl, hb9⟩; have HC9 := Lib.hid (HC8.out.grow hb9); have HD9 := Lib.hid (HD8.out.grow hb9); have HL9 := Lib.hid (HL8.out.grow hb9); have HM9 := Lib.hid (HM8.out.grow hb9); have HB9 := Lib.hid (HB8.out.trans (hb9.mono HB8.out.size)); clear hb9 x0 x1 y0 y1))
    clear hw0 hw1
    go_loopw [18] (fun i wr => ∃ k : Nat, k ≤ gl.length ∧ i = .int .i64 k ∧ Below w9.heap.size w9 wr) (fun i _ => gl.length - (intOf i).toNat)
    case atStart => exact ⟨0, Nat.zero_le _, rfl, Below.refl _ _⟩
    case round =>
      obtain ⟨k, hk, rfl, hb⟩ := hrel
      by_cases hlt : k < gl.length
      · obtain ⟨b1, o1, x1, rfl, hb1, hx1, hc1⟩ := (HC9.out.grow hb).int_at hlt
        obtain ⟨b2, o2, x2, rfl, hb2, hx2, hc2⟩ := (HD9.out.grow hb).int_at hlt
        rw [hx1] at hx2
        injection hx2 with hx2
        subst hx2
        have e1 : (0 : Int) ≤ (k : Int) := by omega
        have e2 : (k : Int) < (gl.length : Int) := by omega
        clear hx1
        have HBB := Lib.hid hb
        clear hb
        go_wp2_with fail
        go_quiet (fail)
        go_wp2_with fail
        go_roundw
        case rel => exact ⟨k + 1, by omega, by go_num, below_drewN HBB.out _⟩
        case measure => simp [intOf]; omega
      · have HBB := Lib.hid hb
        clear hb
        go_wp2_with fail
        go_loopw [19] (fun i wr2 => ∃ k : Nat, k ≤ pl.length ∧ i = .int .i64 k ∧ Below w9.heap.size w9 wr2) (fun i _ => pl.length - (intOf i).toNat)
        case atStart => exact ⟨0, Nat.zero_le _, rfl, HBB.out⟩
        case round =>
          obtain ⟨k2, hk2, rfl, hb⟩ := hrel
          by_cases hlt2 : k2 < pl.length
          · obtain ⟨b1, o1, x1, rfl, hb1, hx1, hc1⟩ := (HL9.out.grow hb).int_at hlt2
            obtain ⟨b2, o2, x2, rfl, hb2, hx2, hc2⟩ := (HM9.out.grow hb).int_at hlt2
            rw [hx1] at hx2
            injection hx2 with hx2
            subst hx2
            have e1 : (0 : Int) ≤ (k2 : Int) := by omega
            have e2 : (k2 : Int) < (pl.length : Int) := by omega
            clear hx1
            have HBC := Lib.hid hb
            clear hb
            go_wp2_with fail
            go_quiet (fail)
            go_wp2_with fail
            go_roundw
            case rel => exact ⟨k2 + 1, by omega, by go_num, below_drewN HBC.out _⟩
            case measure => simp [intOf]; omega
          · have HBC := Lib.hid hb
            clear hb
            go_wp2_with (go_at_call 14; refine (works_any _).mono ?_; rintro e w10 ⟨rfl, hb10⟩; have HB10 := Lib.hid hb10; clear hb10)
            go_ret
            exact ⟨rfl, (HB9.out.trans (HBC.out.mono HB9.out.size)).trans (HB10.out.mono (Nat.le_trans HB9.out.size HBC.out.size))⟩
end Go.Proofs.Ytcigobiolbojhaa.Vb

/- Numbers that came in. -/
namespace Go.Proofs.Ytcigobiolbojhaa.Vb
open Go.RowKit Go.WideShapes Go.ChangeShapes Go.ChangeAt Go.Joins Go.Deep

section
variable {H : Type} {enc : TypeId × Value → H} {P : Program} {w : World} {base : Nat} {held : Bool}
theorem open_ints {t e : TypeId} (ht : P.underlying t = some (.slice e)) (c1 : P.cellsOf e = 1) (he : P.underlying e = some (.int .i64)) {v : Value} {d : DataW H} {p : List MemPlace} {r : Reach} {b0 : Nat} (hval : Value.okWide P w r b0 t v)
    (h : DataW.Trod enc P w base (fun _ => true) held t v d p) : ∃ l : List Int, Sl w (fun _ => True) v l.length 1 (ints l) ∧ ∀ x ∈ l, -9223372036854775808 ≤ x ∧ x ≤ 9223372036854775807 := by
  obtain ⟨A0, n0, c0, rfl⟩ := okWide_slice ht hval
  obtain ⟨fuel, h⟩ := h
  rcases open_slice1 ht c1 h with ⟨hcs, _⟩ | ⟨a, len, cap, m, n, V, D, Pl, hcs, _, hl, hm, hmm, _, hi⟩
  · obtain ⟨rfl, rfl, rfl⟩ : A0 = none ∧ n0 = 0 ∧ c0 = 0 := by simpa [Value.cells] using hcs
    exact ⟨[], ⟨rfl, none, 0, rfl, Nat.le_refl _, Nat.zero_le _, fun h => absurd h (by simp)⟩, fun x hx => by cases hx⟩
  · obtain ⟨rfl, rfl, rfl⟩ : some a = A0 ∧ len = n0 ∧ cap = c0 := by simp [Value.cells] at hcs; exact ⟨hcs.1.symm, hcs.2.1.symm, hcs.2.2.symm⟩
    simp only [if_true] at hmm
    have hmm' := hmm.symm
    subst hmm'
    have each : ∀ i, i < len → ∃ x : Int, V i = .int .i64 x ∧ -9223372036854775808 ≤ x ∧ x ≤ 9223372036854775807 := fun i hlt => by
      obtain ⟨x, e, _, wx⟩ := DataW.trod_int he (hi i (by omega)).2
      simp at e
      exact ⟨x, e, (bd_i64 wx).1, (bd_i64 wx).2⟩
    haveI : Inhabited Int := ⟨0⟩
    obtain ⟨F, hF⟩ := choose_lt each
    refine ⟨(List.range len).map F, ⟨by simp [ints], some a, cap, by simp, by simpa using hl, hm, fun h0' => ?_⟩, fun x hx => ?_⟩
    · have h0'' : 0 < len := by simpa using h0'
      obtain ⟨b, off, rfl⟩ := addr_of_cell (w := w) (a := a) (hi 0 (by omega)).1
      refine ⟨b, off, rfl, trivial, World.block_lt_of_cell? w ⟨b, off, none⟩ (u := V 0) (by simpa [Addr.add] using (hi 0 (by omega)).1), fun j u hu => ?_⟩
      have hj : j < len := by simpa [ints] using (List.getElem?_eq_some_iff.1 hu).1
      have : u = V j := by
        unfold ints at hu
        rw [List.getElem?_map, List.getElem?_map, List.getElem?_range hj] at hu
        simp at hu
        rw [← hu, (hF j hj).1]
      subst this
      rw [← add_lit']
      exact (hi j (by omega)).1
    · obtain ⟨i, hi', rfl⟩ := List.mem_map.1 hx
      exact (hF i (List.mem_range.1 hi')).2
end
end Go.Proofs.Ytcigobiolbojhaa.Vb

/- Law 29: what came in. -/
namespace Go.Proofs.Ytcigobiolbojhaa.Vb
open Go.RowKit Go.WideShapes Go.ChangeShapes Go.ChangeAt Go.Joins Go.Deep

section
variable {H : Type} {enc : TypeId × Value → H} {P : Program} {w : World} {base : Nat} {held : Bool}
theorem open_intsT {t e : TypeId} (ht : P.underlying t = some (.slice e)) (c1 : P.cellsOf e = 1) (he : P.underlying e = some (.int .i64)) {fuel : Nat} {v : Value} {x : DataW H × List MemPlace}
    (h : DataW.trod enc P w base (fun _ => true) held fuel t [v] = some x) : ∃ l : List Int, Sl w (fun _ => True) v l.length 1 (ints l) ∧ ∀ x ∈ l, -9223372036854775808 ≤ x ∧ x ≤ 9223372036854775807 := by
  rcases open_slice1 ht c1 h with ⟨hcs, _⟩ | ⟨a, len, cap, m, n, V, D, Pl, hcs, _, hl, hm, hmm, _, hi⟩
  · obtain rfl : v = .slice none 0 0 := by simpa using hcs
    exact ⟨[], ⟨rfl, none, 0, rfl, Nat.le_refl _, Nat.zero_le _, fun h => absurd h (by simp)⟩, fun x hx => by cases hx⟩
  · obtain rfl : v = .slice (some a) len cap := by simpa using hcs
    simp only [if_true] at hmm
    have hmm' := hmm.symm
    subst hmm'
    have each : ∀ i, i < len → ∃ x : Int, V i = .int .i64 x ∧ -9223372036854775808 ≤ x ∧ x ≤ 9223372036854775807 := fun i hlt => by
      obtain ⟨x, e, _, wx⟩ := DataW.trod_int he (hi i (by omega)).2
      simp at e
      exact ⟨x, e, (bd_i64 wx).1, (bd_i64 wx).2⟩
    haveI : Inhabited Int := ⟨0⟩
    obtain ⟨F, hF⟩ := choose_lt each
    refine ⟨(List.range len).map F, ⟨by simp [ints], some a, cap, by simp, by simpa using hl, hm, fun h0' => ?_⟩, fun x hx => ?_⟩
    · have h0'' : 0 < len := by simpa using h0'
      obtain ⟨b, off, rfl⟩ := addr_of_cell (w := w) (a := a) (hi 0 (by omega)).1
      refine ⟨b, off, rfl, trivial, World.block_lt_of_cell? w ⟨b, off, none⟩ (u := V 0) (by simpa [Addr.add] using (hi 0 (by omega)).1), fun j u hu => ?_⟩
      have hj : j < len := by simpa [ints] using (List.getElem?_eq_some_iff.1 hu).1
      have : u = V j := by
        unfold ints at hu
        rw [List.getElem?_map, List.getElem?_map, List.getElem?_range hj] at hu
        simp at hu
        rw [← hu, (hF j hj).1]
      subst this
      rw [← add_lit']
      exact (hi j (by omega)).1
    · obtain ⟨i, hi', rfl⟩ := List.mem_map.1 hx
      exact (hF i (List.mem_range.1 hi')).2
end

set_option maxRecDepth 100000 in
/-- lowered lists that came in -/
theorem open_low {H : Type} {enc : TypeId × Value → H} {w : World} {base : Nat} {held : Bool} {r : Reach} {b0 : Nat} {v : Value} {d : DataW H} {p : List MemPlace}
    (hv : Value.okWide Try.prog w r b0 106 v) (h : DataW.Trod enc Try.prog w base (fun _ => true) held 106 v d p) :
    ∃ (l : List Off) (bys : List Int) (got : Nat) (pays : Int) (vl vb : Value), v = .agg #[vl, vb, .int .u32 got, .int .i64 pays] ∧ Offs w (fun _ => True) vl l ∧ Sl w (fun _ => True) vb bys.length 1 (ints bys) ∧ (∀ c ∈ bys, -9223372036854775808 ≤ c ∧ c ≤ 9223372036854775807) ∧ got < 4294967296 := by
  obtain ⟨v0, v1, v2, v3, y0, y1, y2, y3, k, rfl, _, _, h0, h1, h2, h3⟩ := open_agg4 Try.underlying106 (by kernel_rfl) (by kernel_rfl) hv h
  obtain ⟨l, hl⟩ := open_offs Try.underlying41 Try.underlying45 (by kernel_rfl) (by kernel_rfl) rfl rfl (by kernel_rfl) (by kernel_rfl) (by kernel_rfl) h0
  obtain ⟨bys, hb, hbd⟩ := open_intsT Try.underlying34 (by kernel_rfl) Try.underlying2 h1
  obtain ⟨m, e2, _, w2⟩ := DataW.trod_int Try.underlying43 h2
  obtain ⟨q, e3, _, w3⟩ := DataW.trod_int Try.underlying2 h3
  simp at e2 e3
  subst e2 e3
  obtain ⟨b0, b1⟩ := bd_u32 w2
  obtain ⟨g, rfl⟩ := Int.eq_ofNat_of_zero_le b0
  exact ⟨l, bys, g, q, v0, v1, rfl, hl, hb, hbd, by omega⟩
end Go.Proofs.Ytcigobiolbojhaa.Vb

/- Secret bids; sealed.coins; who may not bid. -/
namespace Go.Proofs.Ytcigobiolbojhaa.Vb
open Go.RowKit

structure Sec where
  b : Int
  c : Int
def Sec.wf (s : Sec) : Prop := (-9223372036854775808 ≤ s.b ∧ s.b ≤ 9223372036854775807) ∧ -9223372036854775808 ≤ s.c ∧ s.c ≤ 9223372036854775807
def Sec.cells (s : Sec) : List Value := [.int .i64 s.b, .int .i64 s.c]
def Sec.all (l : List Sec) : List Value := l.flatMap Sec.cells
theorem Sec.all_length (l : List Sec) : (Sec.all l).length = l.length * 2 := by
  induction l with
  | nil => rfl
  | cons o l ih => simp only [Sec.all, List.flatMap_cons, List.length_append] at *; simp [Sec.cells, ih]; omega
theorem Sec.all_fst : ∀ (l : List Sec) (k : Nat) (o : Sec), l[k]? = some o → (Sec.all l)[k * 2]? = some (.int .i64 o.b)
  | [], k, o, h => by simp at h
  | x :: l, 0, o, h => by simp at h; subst h; rfl
  | x :: l, k + 1, o, h => by
    have := Sec.all_fst l k o (by simpa using h)
    simp only [Sec.all, List.flatMap_cons, Sec.cells] at *
    rw [show (k + 1) * 2 = k * 2 + 2 from by omega]
    simpa using this
theorem Sec.all_snd : ∀ (l : List Sec) (k : Nat) (o : Sec), l[k]? = some o → (Sec.all l)[k * 2 + 1]? = some (.int .i64 o.c)
  | [], k, o, h => by simp at h
  | x :: l, 0, o, h => by simp at h; subst h; rfl
  | x :: l, k + 1, o, h => by
    have := Sec.all_snd l k o (by simpa using h)
    simp only [Sec.all, List.flatMap_cons, Sec.cells] at *
    rw [show (k + 1) * 2 + 1 = k * 2 + 1 + 2 from by omega]
    simpa using this
theorem Sec.all_one (l : List Sec) : ∀ u ∈ Sec.all l, u.oneCell' = true := by
  intro u hu
  simp only [Sec.all, List.mem_flatMap] at hu
  obtain ⟨o, _, ho⟩ := hu
  simp [Sec.cells] at ho
  rcases ho with rfl | rfl <;> rfl
theorem Sec.all_app (l : List Sec) (s : Sec) : Sec.all l ++ [.int .i64 s.b, .int .i64 s.c] = Sec.all (l ++ [s]) := by simp [Sec.all, Sec.cells]

/-- The slice v reads as the bids l. -/
def Secs (w : World) (R : Nat → Prop) (v : Value) (l : List Sec) : Prop := Sl w R v l.length 2 (Sec.all l) ∧ ∀ o ∈ l, o.wf
theorem Secs.grow {w w' : World} {R : Nat → Prop} {v : Value} {l : List Sec} (h : Secs w R v l) (hb : Below w.heap.size w w') : Secs w' R v l := ⟨h.1.grow hb, h.2⟩
theorem Secs.alloc {w : World} {R : Nat → Prop} {v : Value} {l : List Sec} (h : Secs w R v l) (o : Obj) : Secs (w.alloc o) R v l := ⟨h.1.alloc o, h.2⟩

def coinB (x : Int) : Bool := decide (0 ≤ x) && decide (x ≤ 1099511627776)
theorem coinB_iff {x : Int} : coinB x = true ↔ 0 ≤ x ∧ x ≤ 1099511627776 := by simp [coinB]
set_option maxHeartbeats 400000 in
theorem coins_any (x : Int) (w : World) : Calls Try.prog 128 #[.int .i64 x] w fun e w' => e = .returned (.bool (coinB x)) ∧ w = w' := by
  by_cases h0 : 0 ≤ x
  · go_enter Try.func128, Try.ntmps128
    go_wp2
    go_ret
    exact ⟨by simp [coinB, h0], rfl⟩
  · go_enter Try.func128, Try.ntmps128
    go_wp2
    go_ret
    exact ⟨by simp [coinB]; omega, rfl⟩

def secBad (s : Sec) : Bool := decide (s.b < 0) || !coinB s.c
set_option maxHeartbeats 400000 in
theorem secBad_any (s : Sec) (w : World) : Calls Try.prog 127 #[.agg #[.int .i64 s.b, .int .i64 s.c]] w fun e w' => e = .returned (.bool (secBad s)) ∧ Below w.heap.size w w' := by
  obtain ⟨b, c⟩ := s
  by_cases h0 : b < 0
  · go_enter Try.func127, Try.ntmps127
    go_wp2
    go_ret
    exact ⟨by simp [secBad, h0], (Below.refl _ _).alloc (Nat.le_refl _) _⟩
  · go_enter Try.func127, Try.ntmps127
    go_wp2_with (go_at_call 128; refine (coins_any _ _).mono ?_; rintro e w1 ⟨rfl, rfl⟩)
    go_ret
    exact ⟨by simp [secBad]; intro h; omega, (Below.refl _ _).alloc (Nat.le_refl _) _⟩

/-- the first bid that may not be, from k on -/
def secAt : List Sec → Option Nat
  | [] => none
  | o :: l => if secBad o then some 0 else (secAt l).map (· + 1)
def secInt (l : List Sec) : Int := match secAt l with | some k => k | none => -1
theorem secAt_none : ∀ l : List Sec, (∀ o ∈ l, secBad o = false) → secAt l = none
  | [], _ => rfl
  | o :: l, h => by simp [secAt, h o (by simp), secAt_none l (fun x hx => h x (by simp [hx]))]
theorem secAt_some : ∀ (l : List Sec) (k : Nat) (o : Sec), l[k]? = some o → secBad o = true → (∀ j x, j < k → l[j]? = some x → secBad x = false) → secAt l = some k
  | [], k, o, h, _, _ => by simp at h
  | x :: l, 0, o, h, hb, _ => by simp at h; subst h; simp [secAt, hb]
  | x :: l, k + 1, o, h, hb, hn => by
    have h0 := hn 0 x (by omega) rfl
    have := secAt_some l k o (by simpa using h) hb (fun j y hj hy => hn (j + 1) y (by omega) (by simpa using hy))
    simp [secAt, h0, this]
theorem secInt_ge (l : List Sec) : decide (0 ≤ secInt l) = l.any secBad := by
  unfold secInt
  induction l with
  | nil => rfl
  | cons o l ih =>
    cases hb : secBad o with
    | true => simp [secAt, hb]
    | false =>
      simp only [secAt, hb, List.any_cons, Bool.false_or]
      rw [← ih]
      cases secAt l with
      | none => rfl
      | some k => simp; omega

set_option maxHeartbeats 400000 in
theorem indexSec_any (l : List Sec) (v : Value) (R : Nat → Prop) (w : World) (hl : Secs w R v l) :
    Calls Try.prog 139 #[v, .func (.func 127) #[] #[]] w fun e w' => e = .returned (.int .i64 (secInt l)) ∧ Below w.heap.size w w' := by
  obtain ⟨⟨_, A, cap, rfl, hncap, hcap, hcells⟩, hwf⟩ := hl
  unfold maxLen at hcap
  have HC := Lib.hid hcells
  have HW := Lib.hid hwf
  clear hcells hwf
  go_enter Try.func139, Try.ntmps139
  go_wp2
  go_loopw [8] (fun i wr => ∃ k : Nat, k ≤ l.length ∧ i = .int .i64 k ∧ Below w.heap.size w wr ∧ ∀ j x, j < k → l[j]? = some x → secBad x = false) (fun i _ => l.length - (intOf i).toNat)
  case atStart => exact ⟨0, Nat.zero_le _, rfl, Below.refl _ _, fun j x hj => by omega⟩
  case round =>
    obtain ⟨k, hk, rfl, hb, hno⟩ := hrel
    have HN := Lib.hid hno
    have HB := Lib.hid hb
    clear hno
    by_cases hlt : k < l.length
    · obtain ⟨bb, off, rfl, _, hbb, hcs⟩ := HC.out (by omega)
      obtain ⟨o, ho⟩ : ∃ o, l[k]? = some o := ⟨_, List.getElem?_eq_getElem hlt⟩
      have c0 : wr.cell? ⟨bb, off + k * 2, none⟩ = some (.int .i64 o.b) := (hb.cell hbb).trans (hcs _ _ (Sec.all_fst l k o ho))
      have c1 : wr.cell? ⟨bb, off + k * 2 + 1, none⟩ = some (.int .i64 o.c) := (hb.cell hbb).trans (hcs _ _ (Sec.all_snd l k o ho))
      have HO := Lib.hid ho
      clear hcs hb ho
      cases hbad : secBad o with
      | true =>
        have HBAD := Lib.hid hbad
        clear hbad
        go_wp2_with (go_at_call 127; refine (secBad_any o _).mono ?_; rintro e w1 ⟨rfl, hb1⟩; rw [HBAD.out]; have HB1 := Lib.hid hb1; clear hb1)
        go_ret
        refine ⟨ret_int ?_, HB.out.trans (HB1.out.mono HB.out.size)⟩
        unfold secInt
        rw [secAt_some l k o HO.out HBAD.out HN.out]
      | false =>
        have HBAD := Lib.hid hbad
        clear hbad
        go_wp2_with (go_at_call 127; refine (secBad_any o _).mono ?_; rintro e w1 ⟨rfl, hb1⟩; rw [HBAD.out]; have HB1 := Lib.hid hb1; clear hb1)
        go_roundw
        case rel =>
          refine ⟨k + 1, by omega, by go_num, HB.out.trans (HB1.out.mono HB.out.size), fun j x hj hx => ?_⟩
          by_cases hjk : j < k
          · exact HN.out j x hjk hx
          · obtain rfl : j = k := by omega
            rw [HO.out] at hx
            cases hx
            exact HBAD.out
        case measure => simp [intOf]; omega
    · clear hb
      go_wp2
      go_ret
      refine ⟨ret_int ?_, HB.out⟩
      unfold secInt
      rw [secAt_none l (fun o ho => ?_)]
      obtain ⟨j, hj, rfl⟩ := List.getElem_of_mem ho
      exact HN.out j _ (by omega) (List.getElem?_eq_getElem hj)

set_option maxHeartbeats 400000 in
theorem containsSec_any (l : List Sec) (v : Value) (R : Nat → Prop) (w : World) (hl : Secs w R v l) :
    Calls Try.prog 129 #[v, .func (.func 127) #[] #[]] w fun e w' => e = .returned (.bool (l.any secBad)) ∧ Below w.heap.size w w' := by
  have hg := secInt_ge l
  rw [← hg]
  clear hg
  go_enter Try.func129, Try.ntmps129
  go_wp2_with (go_at_call 139; refine (indexSec_any l v R _ hl).mono ?_; rintro e w1 ⟨rfl, hb1⟩; have HB1 := Lib.hid hb1; clear hb1)
  go_ret
  exact ⟨rfl, HB1.out⟩
end Go.Proofs.Ytcigobiolbojhaa.Vb

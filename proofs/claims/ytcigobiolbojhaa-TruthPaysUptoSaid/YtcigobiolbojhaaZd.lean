/- Joined by program: Ref17c Plain17 Ref17d Ref17e Ref17f Law1 Each1 Works Works2 Tru1 Tru2 Giv. -/
import Derived.Test.YtcigobiolbojhaaZc
import Derived.Deep.CutRange
import Derived.Deep.RegionWith
import Derived.Deep.RegionHeld3
import Derived.Test.YtcigobiolbojhaaZb
/- The reference of layer 17: Costs. -/
namespace Go.Proofs.Ytcigobiolbojhaa.Vb
open Go.RowKit

theorem own_alloc {w : World} {base : Nat} {e : TypeId} {sz n : Nat} {v : Value} {xs : List Value} (h : w.ownsRow base e sz v n xs) (o : Obj) : (w.alloc o).ownsRow base e sz v n xs :=
  own_grow h ((Below.refl _ _).alloc (Nat.le_refl _) o)
/-- what stands behind the making of the answer -/
def PaidCut (n : Int) (bs : List (List Off)) (w1 wr : World) (p : Value) : Prop := ∃ (gp : Nat) (A1 : Option Addr) (c1 : Nat), p = .pointer (some ⟨gp, 0, none⟩) ∧ w1.heap.size ≤ gp ∧
    Blk wr gp 36 #[.slice A1 bs.length c1, .int .i64 (W bs (allOf n)), .slice none 0 0] ∧ wr.ownsRow w1.heap.size 3 1 (.slice A1 bs.length c1) bs.length (ints (bestC n bs)) ∧ Below w1.heap.size w1 wr
section
variable {n : Int} {bs : List (List Off)} {w1 w2 w3 : World} {A1 : Option Addr} {c1 : Nat}
end

end Go.Proofs.Ytcigobiolbojhaa.Vb

/- Plain: who wins nothing is not missed. -/
namespace Go.Proofs.Ytcigobiolbojhaa.Vb
open Go.RowKit

theorem stepO_mono {g g' : Nat → Int} (f : Nat) {b b' : Int} (o : Off) (hg : ∀ x, g x ≤ g' x) (hb : b ≤ b') : stepO g f b o ≤ stepO g' f b' o := by
  unfold stepO
  split
  · have := hg (andNot f o.g); omega
  · exact hb
theorem fold_mono {g g' : Nat → Int} (f : Nat) (hg : ∀ x, g x ≤ g' x) : ∀ (l : List Off) {b b' : Int}, b ≤ b' → l.foldl (stepO g f) b ≤ l.foldl (stepO g' f) b'
  | [], _, _, h => h
  | o :: l, _, _, h => fold_mono f hg l (stepO_mono f o hg h)
theorem fold_mem {g : Nat → Int} {f : Nat} : ∀ (l : List Off) (b : Int) (o : Off), o ∈ l → andNot o.g f = 0 → o.c + g (andNot f o.g) ≤ l.foldl (stepO g f) b
  | x :: l, b, o, ho, hf => by
    rcases List.mem_cons.1 ho with rfl | ho
    · refine Int.le_trans ?_ (fold_ge g f l _)
      unfold stepO
      rw [if_pos hf]
      omega
    · exact fold_mem l _ o ho hf
theorem fold_att {g : Nat → Int} {f : Nat} : ∀ (l : List Off) (b : Int), l.foldl (stepO g f) b = b ∨ ∃ o ∈ l, andNot o.g f = 0 ∧ o.c + g (andNot f o.g) = l.foldl (stepO g f) b
  | [], b => .inl rfl
  | x :: l, b => by
    rcases fold_att l (stepO g f b x) with h | ⟨o, ho, hf, he⟩
    · by_cases hf : andNot x.g f = 0
      · by_cases hle : x.c + g (andNot f x.g) ≤ b
        · left
          rw [List.foldl_cons, h]
          unfold stepO
          rw [if_pos hf]
          omega
        · right
          refine ⟨x, by simp, hf, ?_⟩
          rw [List.foldl_cons, h]
          unfold stepO
          rw [if_pos hf]
          omega
      · left
        rw [List.foldl_cons, h]
        unfold stepO
        rw [if_neg hf]
    · exact .inr ⟨o, by simp [ho], hf, by rw [List.foldl_cons]; exact he⟩

theorem W_set_le : ∀ (bs : List (List Off)) (k f : Nat), W (bs.set k []) f ≤ W bs f
  | [], k, f => by simp
  | l :: bs, 0, f => by
    simp only [List.set_cons_zero, W, List.foldl_nil]
    exact fold_ge _ _ _ _
  | l :: bs, k + 1, f => by
    simp only [List.set_cons_succ, W]
    exact fold_mono f (fun x => W_set_le bs k x) l (W_set_le bs k f)

/-- nobody's offer reaches what is had: then it is had without the buyer -/
theorem pick_none_W {bs : List (List Off)} {l : List Off} {f : Nat} (h : pickAt (W bs) f (W (l :: bs) f) l = none) : W (l :: bs) f = W bs f := by
  have hno : ∀ o ∈ l, pickB (W bs) f (W (l :: bs) f) o = false := by
    generalize W (l :: bs) f = left at h
    induction l with
    | nil => simp
    | cons x l ih =>
      simp only [pickAt] at h
      split at h
      · cases h
      · rename_i hx
        intro o ho
        rcases List.mem_cons.1 ho with rfl | ho
        · simpa using hx
        · exact ih (by simpa using h) o ho
  rcases fold_att (g := W bs) (f := f) l (W bs f) with h1 | ⟨o, ho, hf, he⟩
  · exact h1
  · exfalso
    have := hno o ho
    simp only [pickB, Bool.and_eq_false_iff, decide_eq_false_iff_not] at this
    rcases this with h2 | h2
    · exact h2 hf
    · exact h2 he
theorem pickAt_att {g : Nat → Int} {f : Nat} {left : Int} : ∀ {l : List Off} {j x : Nat}, pickAt g f left l = some (j, x) → ∃ o ∈ l, o.g = x ∧ andNot o.g f = 0 ∧ o.c + g (andNot f o.g) = left
  | o :: l, j, x, h => by
    simp only [pickAt] at h
    split at h
    · rename_i hb
      simp only [Option.some.injEq, Prod.mk.injEq] at h
      simp only [pickB, Bool.and_eq_true, decide_eq_true_eq] at hb
      exact ⟨o, by simp, h.2, hb.1, hb.2⟩
    · cases hp : pickAt g f left l with
      | none => rw [hp] at h; cases h
      | some p =>
        rw [hp] at h
        simp only [Option.map_some, Option.some.injEq, Prod.mk.injEq] at h
        obtain ⟨o', h1, h2⟩ := pickAt_att (j := p.1) (x := p.2) hp
        exact ⟨o', by simp [h1], by rw [← h.2]; exact h2⟩
theorem W_loser : ∀ (bs : List (List Off)) (k f : Nat), (choose bs f)[k]? = some (-1) → W bs f ≤ W (bs.set k []) f
  | [], k, f, h => by simp [choose] at h
  | l :: bs, 0, f, h => by
    simp only [choose, List.getElem?_cons_zero, Option.some.injEq] at h
    unfold pickN at h
    cases hp : pickAt (W bs) f (W (l :: bs) f) l with
    | none => simp only [List.set_cons_zero]; rw [pick_none_W hp]; exact Int.le_refl _
    | some p => rw [hp] at h; simp only at h; omega
  | l :: bs, k + 1, f, h => by
    simp only [choose, List.getElem?_cons_succ] at h
    have ih := W_loser bs k _ h
    simp only [List.set_cons_succ]
    unfold pickN at ih
    cases hp : pickAt (W bs) f (W (l :: bs) f) l with
    | none =>
      rw [hp] at ih
      rw [pick_none_W hp]
      exact Int.le_trans ih (fold_ge _ _ _ _)
    | some p =>
      obtain ⟨j, x⟩ := p
      rw [hp] at ih
      obtain ⟨o, ho, rfl, hf, he⟩ := pickAt_att hp
      rw [← he]
      refine Int.le_trans (Int.add_le_add_left ih _) ?_
      exact fold_mem l _ o ho hf

theorem instE_withE {n : Int} {bs : List (List Off)} {k : Nat} (h : instE n bs = 0) (hk : k < bs.length) : withE n bs (k : Int) [] = 0 := by
  unfold withE
  rw [if_neg (by simpa using h), if_neg (by omega)]
  obtain ⟨h1, h2, _⟩ := instE_zero h
  unfold checkE
  rw [if_neg (by omega)]
  simp [badAt]
end Go.Proofs.Ytcigobiolbojhaa.Vb

/- The reference of layer 17: Costs refused; SamePaid; Pivotal. -/
namespace Go.Proofs.Ytcigobiolbojhaa.Vb
open Go.RowKit

theorem ints_get {cs : List Int} {k : Nat} {c : Int} (h : cs[k]? = some c) : (ints cs)[k]? = some (.int .i64 c) := by simp [ints, h]

end Go.Proofs.Ytcigobiolbojhaa.Vb

/- The reference of layer 17: Pivotal, Gains. -/
namespace Go.Proofs.Ytcigobiolbojhaa.Vb
open Go.RowKit

end Go.Proofs.Ytcigobiolbojhaa.Vb

/- The reference of layer 17: Gains. -/
namespace Go.Proofs.Ytcigobiolbojhaa.Vb
open Go.RowKit

/-- append at a step of a region that draws its order -/
theorem step_app {P : Program} (w : World) {ops : Array Oper} {o : Oper} {a : Act} {K : Act → World → Prop} {Q : Exit → Act → World → Prop} {E0 : Prop} (hgd : o.guard = none) (s x : Operand) {t e : TypeId} {sz bytes : Nat} (E : ElemT P t e sz bytes)
    (ho : o.op = .call { callee := .builtin .append, args := #[s, x], argTypes := #[t, t] })
    (base : Nat) (v : Value) (n : Nat) (xs : List Value) (hs : a.eval s = v) (hown : w.ownsRow base e sz v n xs)
    (R : Nat → Prop) (v2 : Value) (m : Nat) (news : List Value) (hx : a.eval x = v2) (hr : Sl w R v2 m sz news) (h1 : ∀ u ∈ news, u.oneCell' = true)
    (hbytes : (n + m) * bytes ≤ 140737488355328) (h63 : n + m ≤ maxLen) (hbase : base ≤ w.heap.size)
    (h : ∀ A' cap' w', w'.ownsRow base e sz (.slice A' (n + m) cap') (n + m) (xs ++ news) → w.grownBy w' v.ownBlock → ((Value.slice A' (n + m) cap').ownBlock = v.ownBlock ∨ (Value.slice A' (n + m) cap').ownBlock = some w.heap.size) → K (a.put o.dst (.slice A' (n + m) cap')) w') :
    if Region.wanted o (yielded ops a.tmps) = true then Oper.wp P o a w K Q else E0 := by
  have hw : Region.wanted o (yielded ops a.tmps) = true := by simp [Region.wanted, hgd]
  rw [if_pos hw]
  exact wp_app w s x E ho base v n xs hs hown R v2 m news hx hr h1 hbytes h63 hbase h

end Go.Proofs.Ytcigobiolbojhaa.Vb

/- Law 17's own: num, great, Income. -/
namespace Go.Proofs.Ytcigobiolbojhaa.Vb
open Go.RowKit

def greatB (bs : List (List Off)) : Bool := bs.any (fun l => decide (40 < l.length)) || decide (40 < bs.length)
def sumI : List Int → Int
  | [] => 0
  | x :: l => x + sumI l
theorem sumI_app : ∀ (a b : List Int), sumI (a ++ b) = sumI a + sumI b
  | [], b => by simp [sumI]
  | x :: a, b => by simp only [List.cons_append, sumI, sumI_app a b]; omega
theorem sumI_take {ps : List Int} {k : Nat} {c : Int} (h : ps[k]? = some c) : sumI (ps.take (k + 1)) = sumI (ps.take k) + c := by
  rw [List.take_add_one, h, sumI_app]
  simp [sumI]
theorem sumI_bd {M : Int} : ∀ (l : List Int), (∀ x ∈ l, -M ≤ x ∧ x ≤ M) → -(l.length * M) ≤ sumI l ∧ sumI l ≤ l.length * M
  | [], _ => by simp [sumI]
  | x :: l, h => by
    have h1 := h x (by simp)
    have h2 := sumI_bd l (fun y hy => h y (by simp [hy]))
    simp only [sumI, List.length_cons]
    have : ((l.length + 1 : Nat) : Int) * M = l.length * M + M := by rw [Int.natCast_add, Int.add_mul]; simp
    rw [this]
    omega

end Go.Proofs.Ytcigobiolbojhaa.Vb

/- vcg.Each: what it tells (the going over itself apart). -/
namespace Go.Proofs.Ytcigobiolbojhaa.Vb
open Go.RowKit

/-- where the iterator's two variables lie, and what they hold -/
structure EachAt (w : World) (lo pb pp : Nat) (n : Int) (bs : List (List Off)) : Prop where
  at_ : ∃ A1 c1 A2 c2 A3 c3, Blk w pb 36 #[.slice A1 bs.length c1, .int .i64 (W bs (allOf n)), .slice A2 bs.length c2] ∧ Blk w pp 34 #[.slice A3 bs.length c3] ∧
    w.ownsRow lo 3 1 (.slice A1 bs.length c1) bs.length (ints (bestC n bs)) ∧ w.ownsRow lo 2 1 (.slice A3 bs.length c3) bs.length (ints (paysC n bs))

theorem EachAt.grow {w w' : World} {lo pb pp : Nat} {n : Int} {bs : List (List Off)} (h : EachAt w lo pb pp n bs) (hb : Below w.heap.size w w') : EachAt w' lo pb pp n bs := by
  obtain ⟨A1, c1, A2, c2, A3, c3, h1, h2, h3, h4⟩ := h.at_
  exact ⟨A1, c1, A2, c2, A3, c3, h1.grow hb, h2.grow hb, own_grow h3 hb, own_grow h4 hb⟩

end Go.Proofs.Ytcigobiolbojhaa.Vb

/- Law 17's own: three, works. -/
namespace Go.Proofs.Ytcigobiolbojhaa.Vb
open Go.RowKit

def bs3 : List (List Off) := [[⟨1, 6⟩, ⟨3, 9⟩], [⟨2, 5⟩], [⟨3, 10⟩]]

theorem Sl.blk {w : World} {g n cap sz : Nat} {t : TypeId} {cs : Array Value} (h : Blk w g t cs) (h1 : n ≤ cap) (h2 : cap ≤ maxLen) (h3 : cs.size = n * sz) : Sl w (fun _ => True) (.slice (some ⟨g, 0, none⟩) n cap) n sz cs.toList :=
  ⟨by simpa using h3, some ⟨g, 0, none⟩, cap, rfl, h1, h2, fun _ => ⟨g, 0, rfl, trivial, h.lt, fun j u hj => by
    rw [show 0 + j = j from by omega]
    exact (h.cell j).trans (by simpa using hj)⟩⟩

theorem Blk.new' {w : World} {g : Nat} (t : TypeId) (cs : Array Value) (hg : w.heap.size = g) : Blk (w.alloc (.cells cs t)) g t cs := by subst hg; exact Blk.new w t cs

end Go.Proofs.Ytcigobiolbojhaa.Vb

/- Law 17's own: works. -/
namespace Go.Proofs.Ytcigobiolbojhaa.Vb
open Go.RowKit

end Go.Proofs.Ytcigobiolbojhaa.Vb

/- truth.wrong, and what it stands on; slices.Clone of bids. -/
namespace Go.Proofs.Ytcigobiolbojhaa.Vb
open Go.RowKit

theorem et_sec29 : ElemT Try.prog 116 148 2 16 := elemT_of Try.underlying116 (by omega) (z := .agg #[.int .i64 0, .int .i64 0]) (by kernel_rfl) rfl

set_option maxHeartbeats 400000 in
theorem clone_sec (xs : List Value) (n : Nat) (v : Value) (R : Nat → Prop) (w : World) (hl : Sl w R v n 2 xs) (h1 : ∀ u ∈ xs, u.oneCell' = true) (hb : n * 16 ≤ 140737488355328) :
    Calls Try.prog 138 #[v] w fun e w' => ∃ A' cap', e = .returned (.slice A' n cap') ∧ w'.ownsRow w.heap.size 148 2 (.slice A' n cap') n xs ∧ Below w.heap.size w w' := by
  obtain ⟨hlen, A, cap, rfl, hncap, hcap, hcells⟩ := id hl
  have HS := Lib.hid hl
  clear hl hcells
  have hq := fun (W : World) (a : Option Addr) => Lib.run_eql_slice_nil (P := Try.prog) W 116 148 a n cap 0 0 Try.underlying116
  cases A with
  | none =>
    have hn : n = 0 := by
      obtain ⟨_, A, c, h, _, _, hc⟩ := HS.out
      injection h with hA _ _
      subst hA
      rcases Nat.eq_zero_or_pos n with h0 | h0
      · exact h0
      · obtain ⟨b, off, h, _⟩ := hc h0
        cases h
    subst hn
    have hx : xs = [] := List.eq_nil_of_length_eq_zero (by simpa using hlen)
    subst hx
    go_enter Try.func138, Try.ntmps138
    go_wp2
    go_ret
    exact ⟨none, 0, rfl, World.ownsRow_nil _ _ _ _, Below.refl _ _⟩
  | some ad =>
    clear hlen
    go_enter Try.func138, Try.ntmps138
    go_wp2_with (at_builtin; refine wpList_app _ rfl (.tmp 5) (.tmp 6) et_sec29 rfl w.heap.size (.slice (some ⟨w.heap.size, 0, none⟩) 0 0) 0 [] rfl (World.ownsRow_lit w #[] 0 (Nat.le_refl _) (Nat.zero_le _) rfl) R _ n xs rfl (HS.out.alloc _) h1 (by omega) (by unfold maxLen; omega) (by simp) ?_; intro A' cap' w1 hown hg hloc)
    go_ret
    refine ⟨A', cap', by simp, by simpa using hown, ((Below.refl _ _).alloc (Nat.le_refl _) _).grown hg (by simp) (by simp [Value.ownBlock])⟩

/-- the first one of which p is true -/
def atF {α : Type} (p : α → Bool) : List α → Option Nat
  | [] => none
  | o :: l => if p o then some 0 else (atF p l).map (· + 1)
def atFI {α : Type} (p : α → Bool) (l : List α) : Int := match atF p l with | some k => k | none => -1
theorem atF_none {α : Type} {p : α → Bool} : ∀ l : List α, (∀ o ∈ l, p o = false) → atF p l = none
  | [], _ => rfl
  | o :: l, h => by simp [atF, h o (by simp), atF_none l (fun x hx => h x (by simp [hx]))]
theorem atF_some {α : Type} {p : α → Bool} : ∀ (l : List α) (k : Nat) (o : α), l[k]? = some o → p o = true → (∀ j x, j < k → l[j]? = some x → p x = false) → atF p l = some k
  | [], k, o, h, _, _ => by simp at h
  | x :: l, 0, o, h, hb, _ => by simp at h; subst h; simp [atF, hb]
  | x :: l, k + 1, o, h, hb, hn => by
    have h0 := hn 0 x (by omega) rfl
    have := atF_some l k o (by simpa using h) hb (fun j y hj hy => hn (j + 1) y (by omega) (by simpa using hy))
    simp [atF, h0, this]
theorem atFI_ge {α : Type} (p : α → Bool) (l : List α) : decide (0 ≤ atFI p l) = l.any p := by
  unfold atFI
  induction l with
  | nil => rfl
  | cons o l ih =>
    cases hb : p o with
    | true => simp [atF, hb]
    | false =>
      simp only [atF, hb, List.any_cons, Bool.false_or]
      rw [← ih]
      cases atF p l with
      | none => rfl
      | some k => simp; omega
theorem atF_get {α : Type} {p : α → Bool} : ∀ {l : List α} {k : Nat}, atF p l = some k → ∃ o, l[k]? = some o ∧ p o = true
  | [], k, h => by simp [atF] at h
  | x :: l, k, h => by
    simp only [atF] at h
    split at h
    · rename_i hp
      injection h with h
      subst h
      exact ⟨x, rfl, hp⟩
    · cases ha : atF p l with
      | none => rw [ha] at h; cases h
      | some j =>
        rw [ha] at h
        simp at h
        subst h
        obtain ⟨o, h1, h2⟩ := atF_get ha
        exact ⟨o, by simpa using h1, h2⟩

def notCoin (x : Int) : Bool := !coinB x
set_option maxHeartbeats 400000 in
theorem wrong1_any (x : Int) (w : World) : Calls Try.prog 136 #[.int .i64 x] w fun e w' => e = .returned (.bool (notCoin x)) ∧ w = w' := by
  by_cases h0 : x < 0
  · go_enter Try.func136, Try.ntmps136
    go_wp2
    go_ret
    have e : notCoin x = true := by
      simp [notCoin, coinB]
      omega
    exact ⟨by rw [e]; rfl, rfl⟩
  · go_enter Try.func136, Try.ntmps136
    go_wp2
    go_ret
    have e : notCoin x = decide (1099511627776 < x) := by
      unfold notCoin coinB
      have h1 : decide (0 ≤ x) = true := by simp; omega
      rw [h1, Bool.true_and, ← decide_not]
      congr 1
      simp
    exact ⟨by rw [e]; rfl, rfl⟩

set_option maxHeartbeats 400000 in
theorem indexCoin_any (l : List Int) (v : Value) (R : Nat → Prop) (w : World) (hl : Sl w R v l.length 1 (ints l)) :
    Calls Try.prog 153 #[v, .func (.func 136) #[] #[]] w fun e w' => e = .returned (.int .i64 (atFI notCoin l)) ∧ w = w' := by
  obtain ⟨_, A, cap, rfl, hncap, hcap, hcells⟩ := hl
  unfold maxLen at hcap
  have HC := Lib.hid hcells
  clear hcells
  go_enter Try.func153, Try.ntmps153
  go_wp2
  go_loopw [8] (fun i wr => ∃ k : Nat, k ≤ l.length ∧ i = .int .i64 k ∧ wr = w ∧ ∀ j x, j < k → l[j]? = some x → notCoin x = false) (fun i _ => l.length - (intOf i).toNat)
  case atStart => exact ⟨0, Nat.zero_le _, rfl, rfl, fun j x hj => by omega⟩
  case round =>
    obtain ⟨k, hk, rfl, rfl, hno⟩ := hrel
    have HN := Lib.hid hno
    clear hno
    by_cases hlt : k < l.length
    · obtain ⟨bb, off, rfl, _, hbb, hcs⟩ := HC.out (by omega)
      obtain ⟨o, ho⟩ : ∃ o, l[k]? = some o := ⟨_, List.getElem?_eq_getElem hlt⟩
      have c0 : wr.cell? ⟨bb, off + k, none⟩ = some (.int .i64 o) := hcs k _ (by rw [ints, List.getElem?_map, ho]; rfl)
      have HO := Lib.hid ho
      clear hcs ho
      cases hbad : notCoin o with
      | true =>
        have HBAD := Lib.hid hbad
        clear hbad
        go_wp2_with (go_at_call 136; refine (wrong1_any o _).mono ?_; rintro e w1 ⟨rfl, rfl⟩; rw [HBAD.out])
        go_ret
        refine ⟨ret_int ?_, rfl⟩
        unfold atFI
        rw [atF_some l k o HO.out HBAD.out HN.out]
      | false =>
        have HBAD := Lib.hid hbad
        clear hbad
        go_wp2_with (go_at_call 136; refine (wrong1_any o _).mono ?_; rintro e w1 ⟨rfl, rfl⟩; rw [HBAD.out])
        go_roundw
        case rel =>
          refine ⟨k + 1, by omega, by go_num, trivial, fun j x hj hx => ?_⟩
          by_cases hjk : j < k
          · exact HN.out j x hjk hx
          · obtain rfl : j = k := by omega
            rw [HO.out] at hx
            cases hx
            exact HBAD.out
        case measure => simp [intOf]; omega
    · go_wp2
      go_ret
      refine ⟨ret_int ?_, rfl⟩
      unfold atFI
      rw [atF_none l (fun o ho => ?_)]
      obtain ⟨j, hj, rfl⟩ := List.getElem_of_mem ho
      exact HN.out j _ (by omega) (List.getElem?_eq_getElem hj)

set_option maxHeartbeats 400000 in
theorem containsCoin_any (l : List Int) (v : Value) (R : Nat → Prop) (w : World) (hl : Sl w R v l.length 1 (ints l)) :
    Calls Try.prog 137 #[v, .func (.func 136) #[] #[]] w fun e w' => e = .returned (.bool (l.any notCoin)) ∧ w = w' := by
  have hg := atFI_ge notCoin l
  rw [← hg]
  clear hg
  go_enter Try.func137, Try.ntmps137
  go_wp2_with (go_at_call 153; refine (indexCoin_any l v R _ hl).mono ?_; rintro e w1 ⟨rfl, rfl⟩)
  go_ret
  exact ⟨rfl, rfl⟩

theorem sellV_form (floor : Int) (l : List Sec) : ∃ (b : Bool) (x y z : Int), sellV floor l = .agg #[.bool b, .int .i64 x, .int .i64 y, .int .i64 z] := by
  unfold sellV
  split
  · exact soldVal_form floor l
  · exact ⟨_, _, _, _, rfl⟩
theorem sellE_bd (floor : Int) (l : List Sec) : sellE floor l = 0 ∨ sellE floor l = 2 ∨ sellE floor l = 5 := by
  unfold sellE
  split
  · exact .inr (.inl rfl)
  · split
    · exact .inl rfl
    · exact .inr (.inr rfl)

def wrongE (floor : Int) (l : List Sec) (b : Int) (ns : List Int) : Int := if sellE floor l ≠ 0 then sellE floor l else if b < 0 then 2 else if ns.any notCoin = true then 2 else 0

set_option maxHeartbeats 1600000 in
theorem wrong_any (floor : Int) (l : List Sec) (b : Int) (ns : List Int) (v vn : Value) (R Rn : Nat → Prop) (w : World) (hl : Secs w R v l) (hn : Sl w Rn vn ns.length 1 (ints ns)) :
    Calls Try.prog 110 #[.int .i64 floor, v, .int .i64 b, vn] w fun e w' => e = .returned (.int .i64 (wrongE floor l b ns)) ∧ Below w.heap.size w w' := by
  have HL := Lib.hid hl
  have HN := Lib.hid hn
  obtain ⟨⟨_, A, cap, rfl, _⟩, _⟩ := id hl
  obtain ⟨_, A2, cap2, rfl, _⟩ := id hn
  clear hl hn
  obtain ⟨sb, sx, sy, sz, hsv⟩ := sellV_form floor l
  have hsb := sellE_bd floor l
  by_cases hE : sellE floor l = 0
  · have HE := Lib.hid hE
    have HV := Lib.hid hsv
    by_cases hb : b < 0
    · have hr : wrongE floor l b ns = 2 := by unfold wrongE; rw [if_neg (by simp [hE]), if_pos hb]
      rw [hr]
      clear hE hsv hr hsb
      go_enter Try.func110, Try.ntmps110
      go_wp2_with (go_at_call 91; refine (sell_any floor l _ R _ HL.out).mono ?_; rintro e w1 ⟨rfl, hb1⟩; rw [HE.out, HV.out]; have HB1 := Lib.hid hb1; clear hb1)
      go_ret
      exact ⟨rfl, HB1.out.alloc HB1.out.size _⟩
    · cases ha : ns.any notCoin with
      | true =>
        have hr : wrongE floor l b ns = 2 := by unfold wrongE; rw [if_neg (by simp [hE]), if_neg hb, if_pos ha]
        rw [hr]
        have HA := Lib.hid ha
        clear hE hsv hr hsb ha
        go_enter Try.func110, Try.ntmps110
        go_wp2_with (first
          | (go_at_call 91; refine (sell_any floor l _ R _ HL.out).mono ?_; rintro e w1 ⟨rfl, hb1⟩; rw [HE.out, HV.out]; have HB1 := Lib.hid hb1; clear hb1)
          | (go_at_call 137; refine (containsCoin_any ns _ Rn _ ((HN.out.grow HB1.out).alloc _)).mono ?_; rintro e w2 ⟨rfl, rfl⟩; rw [HA.out]))
        go_ret
        exact ⟨rfl, HB1.out.alloc HB1.out.size _⟩
      | false =>
        have hr : wrongE floor l b ns = 0 := by unfold wrongE; rw [if_neg (by simp [hE]), if_neg hb, if_neg (by simp [ha])]
        rw [hr]
        have HA := Lib.hid ha
        clear hE hsv hr hsb ha
        go_enter Try.func110, Try.ntmps110
        go_wp2_with (first
          | (go_at_call 91; refine (sell_any floor l _ R _ HL.out).mono ?_; rintro e w1 ⟨rfl, hb1⟩; rw [HE.out, HV.out]; have HB1 := Lib.hid hb1; clear hb1)
          | (go_at_call 137; refine (containsCoin_any ns _ Rn _ ((HN.out.grow HB1.out).alloc _)).mono ?_; rintro e w2 ⟨rfl, rfl⟩; rw [HA.out]))
        go_ret
        exact ⟨rfl, HB1.out.alloc HB1.out.size _⟩
  · have hr : wrongE floor l b ns = sellE floor l := by unfold wrongE; rw [if_pos hE]
    rw [hr]
    obtain ⟨z, hz⟩ : ∃ z, z = sellE floor l := ⟨_, rfl⟩
    rw [← hz] at hsb hE ⊢
    have hcb : (z != 0) = true := by simpa using hE
    have HE := Lib.hid hz
    have HV := Lib.hid hsv
    clear hsv hr hz
    have hzb : -9223372036854775808 ≤ z ∧ z ≤ 9223372036854775807 := by omega
    clear hsb
    go_enter Try.func110, Try.ntmps110
    go_wp2_with (go_at_call 91; refine (sell_any floor l _ R _ HL.out).mono ?_; rintro e w1 ⟨rfl, hb1⟩; rw [← HE.out, HV.out]; have HB1 := Lib.hid hb1; clear hb1)
    go_ret
    exact ⟨rfl, HB1.out.alloc HB1.out.size _⟩
end Go.Proofs.Ytcigobiolbojhaa.Vb

/- truth.gains, truth.Sealed. -/
namespace Go.Proofs.Ytcigobiolbojhaa.Vb
open Go.RowKit

def isB (b : Int) (s : Sec) : Bool := decide (s.b = b)
set_option maxHeartbeats 400000 in
theorem gains1_any (s : Sec) (b : Int) (g : Nat) (w : World) (hc : w.cell? ⟨g, 0, none⟩ = some (.int .i64 b)) :
    Calls Try.prog 140 #[.agg #[.int .i64 s.b, .int .i64 s.c], .pointer (some ⟨g, 0, none⟩)] w fun e w' => e = .returned (.bool (isB b s)) ∧ Below w.heap.size w w' := by
  obtain ⟨x, c⟩ := s
  have hg := World.block_lt_of_cell? w _ hc
  have c0 : (w.alloc (.cells #[.int .i64 x, .int .i64 c] 148)).cell? ⟨g, 0, none⟩ = some (.int .i64 b) := by rw [World.cell?_alloc_old _ _ _ (Nat.ne_of_lt hg)]; exact hc
  go_enter Try.func140, Try.ntmps140
  go_wp2
  go_ret
  exact ⟨rfl, (Below.refl _ _).alloc (Nat.le_refl _) _⟩

set_option maxHeartbeats 400000 in
theorem indexB_any (l : List Sec) (b : Int) (g : Nat) (v : Value) (R : Nat → Prop) (w : World) (hl : Secs w R v l) (hg : w.cell? ⟨g, 0, none⟩ = some (.int .i64 b)) :
    Calls Try.prog 139 #[v, .func (.func 140) #[] #[.pointer (some ⟨g, 0, none⟩)]] w fun e w' => e = .returned (.int .i64 (atFI (isB b) l)) ∧ Below w.heap.size w w' := by
  obtain ⟨⟨_, A, cap, rfl, hncap, hcap, hcells⟩, hwf⟩ := hl
  unfold maxLen at hcap
  have hlt := World.block_lt_of_cell? w _ hg
  have HC := Lib.hid hcells
  have HG := Lib.hid hg
  clear hcells hwf hg
  go_enter Try.func139, Try.ntmps139
  go_wp2
  go_loopw [8] (fun i wr => ∃ k : Nat, k ≤ l.length ∧ i = .int .i64 k ∧ Below w.heap.size w wr ∧ ∀ j x, j < k → l[j]? = some x → isB b x = false) (fun i _ => l.length - (intOf i).toNat)
  case atStart => exact ⟨0, Nat.zero_le _, rfl, Below.refl _ _, fun j x hj => by omega⟩
  case round =>
    obtain ⟨k, hk, rfl, hb, hno⟩ := hrel
    have HN := Lib.hid hno
    have HB := Lib.hid hb
    clear hno
    by_cases hltk : k < l.length
    · obtain ⟨bb, off, rfl, _, hbb, hcs⟩ := HC.out (by omega)
      obtain ⟨o, ho⟩ : ∃ o, l[k]? = some o := ⟨_, List.getElem?_eq_getElem hltk⟩
      have c0 : wr.cell? ⟨bb, off + k * 2, none⟩ = some (.int .i64 o.b) := (hb.cell hbb).trans (hcs _ _ (Sec.all_fst l k o ho))
      have c1 : wr.cell? ⟨bb, off + k * 2 + 1, none⟩ = some (.int .i64 o.c) := (hb.cell hbb).trans (hcs _ _ (Sec.all_snd l k o ho))
      have hgc : wr.cell? ⟨g, 0, none⟩ = some (.int .i64 b) := (hb.cell (p := ⟨g, 0, none⟩) hlt).trans HG.out
      have HGC := Lib.hid hgc
      have HO := Lib.hid ho
      clear hcs hb ho hgc
      cases hbad : isB b o with
      | true =>
        have HBAD := Lib.hid hbad
        clear hbad
        go_wp2_with (go_at_call 140; refine (gains1_any o b g _ HGC.out).mono ?_; rintro e w1 ⟨rfl, hb1⟩; rw [HBAD.out]; have HB1 := Lib.hid hb1; clear hb1)
        go_ret
        refine ⟨ret_int ?_, HB.out.trans (HB1.out.mono HB.out.size)⟩
        unfold atFI
        rw [atF_some l k o HO.out HBAD.out HN.out]
      | false =>
        have HBAD := Lib.hid hbad
        clear hbad
        go_wp2_with (go_at_call 140; refine (gains1_any o b g _ HGC.out).mono ?_; rintro e w1 ⟨rfl, hb1⟩; rw [HBAD.out]; have HB1 := Lib.hid hb1; clear hb1)
        go_roundw
        case rel =>
          refine ⟨k + 1, by omega, by go_num, HB.out.trans (HB1.out.mono HB.out.size), fun j x hj hx => ?_⟩
          by_cases hjk : j < k
          · exact HN.out j x hjk hx
          · obtain rfl : j = k := by omega
            rw [HO.out] at hx
            cases hx
            exact HBAD.out
        case measure => simp [intOf]; omega
    · clear hb
      go_wp2
      go_ret
      refine ⟨ret_int ?_, HB.out⟩
      unfold atFI
      rw [atF_none l (fun o ho => ?_)]
      obtain ⟨j, hj, rfl⟩ := List.getElem_of_mem ho
      exact HN.out j _ (by omega) (List.getElem?_eq_getElem hj)

/-- bids with other coins in the place of a bidder's -/
def laidS (l : List Sec) (b c : Int) : List Sec := match atF (isB b) l with | some k => l.set k ⟨b, c⟩ | none => l ++ [⟨b, c⟩]
/-- what Sell tells: sold, the winner, the price -/
def sold4 (floor : Int) (l : List Sec) : Bool × Int × Int × Int :=
  if sellE floor l = 0 then (match bestK floor (-1) l l.length with | none => (false, 0, 0, 0) | some (j, c) => (true, (l[j]?.map (·.b)).getD 0, c, nextC floor l j)) else (false, 0, 0, 0)
theorem sold4_val (floor : Int) (l : List Sec) : sellV floor l = .agg #[.bool (sold4 floor l).1, .int .i64 (sold4 floor l).2.1, .int .i64 (sold4 floor l).2.2.1, .int .i64 (sold4 floor l).2.2.2] := by
  unfold sellV sold4 soldVal
  split
  · cases bestK floor (-1) l l.length with
    | none => rfl
    | some p => rfl
  · rfl
def gainsW (floor : Int) (l : List Sec) (b worth c : Int) : Int :=
  if (sold4 floor (laidS l b c)).1 = true ∧ (sold4 floor (laidS l b c)).2.1 = b then IntKind.i64.wrap (worth - (sold4 floor (laidS l b c)).2.2.2) else 0

theorem Sec.all_set (l : List Sec) (k : Nat) (o : Sec) (c : Int) (h : l[k]? = some o) : (Sec.all l).set (k * 2 + 1) (.int .i64 c) = Sec.all (l.set k ⟨o.b, c⟩) := by
  induction l generalizing k with
  | nil => simp at h
  | cons x l ih =>
    cases k with
    | zero =>
      simp at h
      subst h
      simp [Sec.all, Sec.cells]
    | succ k =>
      have := ih k (by simpa using h)
      simp only [Sec.all, List.flatMap_cons, Sec.cells, List.set_cons_succ] at *
      rw [show (k + 1) * 2 + 1 = k * 2 + 1 + 2 from by omega]
      simpa using this

set_option maxHeartbeats 1600000 in
theorem gains_any (floor : Int) (l : List Sec) (b worth c : Int) (v : Value) (R : Nat → Prop) (w : World) (hl : Secs w R v l) (hll : l.length ≤ 1000000)
    (hb : -9223372036854775808 ≤ b ∧ b ≤ 9223372036854775807) (hc : -9223372036854775808 ≤ c ∧ c ≤ 9223372036854775807) :
    Calls Try.prog 111 #[.int .i64 floor, v, .int .i64 b, .int .i64 worth, .int .i64 c] w fun e w' => e = .returned (.int .i64 (gainsW floor l b worth c)) ∧ Below w.heap.size w w' := by
  have HL := Lib.hid hl
  obtain ⟨⟨_, A, cap, rfl, _⟩, hwf⟩ := id hl
  have HWF := Lib.hid hwf
  clear hl hwf
  have hsv := sold4_val floor (laidS l b c)
  obtain ⟨l', hl'⟩ : ∃ z, z = laidS l b c := ⟨_, rfl⟩
  have hgw : gainsW floor l b worth c = if (sold4 floor l').1 = true ∧ (sold4 floor l').2.1 = b then IntKind.i64.wrap (worth - (sold4 floor l').2.2.2) else 0 := by rw [hl']; rfl
  rw [← hl'] at hsv
  rw [hgw]
  obtain ⟨p, hp⟩ : ∃ z, z = sold4 floor l' := ⟨_, rfl⟩
  obtain ⟨s1, s2, s3, s4⟩ := p
  rw [← hp] at hsv ⊢
  have HV := Lib.hid hsv
  simp only at hsv ⊢
  obtain ⟨r, hr⟩ : ∃ z, z = if s1 = true ∧ s2 = b then IntKind.i64.wrap (worth - s4) else 0 := ⟨_, rfl⟩
  rw [← hr]
  have HR := Lib.hid hr
  clear hgw hp hsv hr
  cases hat : atF (isB b) l with
  | none =>
    have hi : atFI (isB b) l = -1 := by unfold atFI; rw [hat]
    have hlm : l' = l ++ [⟨b, c⟩] := by rw [hl']; unfold laidS; rw [hat]
    have HLM := Lib.hid hlm
    have HI := Lib.hid hi
    clear hat hi hlm hl'
    go_enter Try.func111, Try.ntmps111
    go_wp2_with fail
    refine (clone_sec (Sec.all l) l.length _ R _ (HL.out.alloc _).1 (Sec.all_one l) (by omega)).mono ?_
    rintro e w1 ⟨A1, c1, rfl, hown1, hb1⟩
    have hbx : Blk w1 w.heap.size 3 #[.int .i64 b] := (Blk.new w 3 #[.int .i64 b]).grow hb1
    have HBX := Lib.hid hbx
    have hown1' : w1.ownsRow (w.heap.size + 1) 148 2 (.slice A1 l.length c1) l.length (Sec.all l) := by simpa using hown1
    have HO1 := Lib.hid hown1'
    have HB1 := Lib.hid (((Below.refl _ _).alloc (Nat.le_refl _) _).trans (hb1.mono (B' := w.heap.size) (by simp)))
    clear hb1 hown1 hown1' hbx
    go_wp2_with (first
      | (go_at_call 139; refine (indexB_any l b w.heap.size _ _ _ ⟨Sl.of_own HO1.out, HWF.out⟩ (HBX.out.cell 0)).mono ?_; rintro e w2 ⟨rfl, hb2⟩; rw [HI.out]; have HO2 := Lib.hid (own_grow HO1.out hb2); have HB2 := Lib.hid (HB1.out.trans (hb2.mono HB1.out.size)); have hsz2 := hb2.size; have HBX2 := Lib.hid (HBX.out.grow hb2); have hcb : w2.cell? ⟨w.heap.size, 0, none⟩ = some (.int .i64 b) := (HBX.out.grow hb2).cell 0; have hwsz := HB1.out.size; clear hb2)
      | (at_builtin; have := HO2; go_must (refine wpList_app _ rfl (.tmp 24) (.tmp 27) et_sec29 rfl (w.heap.size + 1) (.slice A1 l.length c1) l.length (Sec.all l) rfl (own_alloc HO2.out (.cells #[.int .i64 b, .int .i64 0] 148)) _ _ 1 _ rfl (Sl.new w2 #[.int .i64 b, .int .i64 0] _ 1 2 (by unfold maxLen; omega) rfl) (by simp [Value.oneCell']) (by omega) (by unfold maxLen; omega) (by have := HBX2.out.lt; simp <;> omega) ?_); go_must (intro A3 c3 w3 hown3 hg3 hlo3; obtain ⟨g, cm, hform, hgm1, hgm2⟩ := World.ownsRow.form hown3 (by omega); injection hform with hA3 _ hc3; subst hA3 hc3; have q0 : w3.cell? ⟨g, l.length * 2 + 1, none⟩ = some (.int .i64 0) := (hown3.cellAt (l.length * 2 + 1) (by omega)).trans (by rw [List.getElem?_append_right (by rw [Sec.all_length]; omega), Sec.all_length]; simp); have q1 := hown3.frozenAt (l.length * 2 + 1); have HO3 := Lib.hid hown3; have HBX3 := Lib.hid ((HBX2.out.alloc _).grown hg3 (fun e => by have := (HO2.out.lt _ e.symm).1; omega)); have HB3 := Lib.hid ((HB2.out.alloc HB2.out.size _).grown hg3 (by have := HBX2.out.lt; simp <;> omega) (fun r e => by have := (HO2.out.lt r e).1; omega)); clear hown3 hg3 hlo3)))
    obtain ⟨h1, h2⟩ := HO3.out.stored (l.length * 2 + 1) (.int .i64 c)
    have hx : (Sec.all l ++ [Value.int .i64 b, Value.int .i64 0]).set (l.length * 2 + 1) (.int .i64 c) = Sec.all l' := by
      rw [HLM.out, Sec.all_app l (Sec.mk b 0), Sec.all_set (l ++ [Sec.mk b 0]) l.length (Sec.mk b 0) c (by simp)]
      congr 1
      simp
    have hll' : l'.length = l.length + 1 := by rw [HLM.out]; simp
    have hs4 : Secs (w3.setCell ⟨g, l.length * 2 + 1, none⟩ (.int .i64 c)) (fun b => (Value.slice (some ⟨g, 0, none⟩) (l.length + 1) c3).ownBlock = some b) (.slice (some ⟨g, 0, none⟩) (l.length + 1) c3) l' := by
      refine ⟨?_, fun o ho => ?_⟩
      · rw [hll', ← hx]
        exact Sl.of_own h1
      · rw [HLM.out] at ho
        rcases List.mem_append.1 ho with h | h
        · exact HWF.out o h
        · simp at h
          subst h
          exact ⟨hb, hc⟩
    have hbx4 : Blk (w3.setCell ⟨g, l.length * 2 + 1, none⟩ (.int .i64 c)) w.heap.size 3 #[.int .i64 b] := HBX3.out.far (by simp; omega) _
    have hb4 : Below w.heap.size w (w3.setCell ⟨g, l.length * 2 + 1, none⟩ (.int .i64 c)) := HB3.out.setCell (by simp; omega) _
    obtain ⟨W4, hW4⟩ : ∃ V, V = w3.setCell ⟨g, l.length * 2 + 1, none⟩ (.int .i64 c) := ⟨_, rfl⟩
    rw [← hW4] at hs4 hbx4 hb4 ⊢
    have HS4 := Lib.hid hs4
    have HBX4 := Lib.hid hbx4
    have HB4 := Lib.hid hb4
    clear h1 h2 hx hs4 hbx4 hb4 hW4 hcb q0 q1
    have hbx4 : Blk W4 w.heap.size 3 #[.int .i64 b] := HBX4.out
    refine (sell_any floor l' _ _ W4 HS4.out).mono ?_
    rintro e w5 ⟨rfl, hb5⟩
    rw [HV.out]
    have hbx5 := hbx4.grow hb5
    have x0 : w5.cell? ⟨w.heap.size, 0, none⟩ = some (.int .i64 b) := hbx5.cell 0
    have x1 : (w5.alloc (.cells #[.bool s1, .int .i64 s2, .int .i64 s3, .int .i64 s4] 150)).cell? ⟨w.heap.size, 0, none⟩ = some (.int .i64 b) := (hbx5.alloc _).cell 0
    have HB6 := Lib.hid ((HB4.out.trans (hb5.mono HB4.out.size)).alloc (HB4.out.trans (hb5.mono HB4.out.size)).size (.cells #[.bool s1, .int .i64 s2, .int .i64 s3, .int .i64 s4] 150))
    clear hb5 hbx4 hbx5
    cases s1 with
    | false =>
      have hr : r = 0 := by rw [HR.out]; simp
      have HRR := Lib.hid hr
      clear hr
      go_wp2_with fail
      go_ret
      exact ⟨by rw [HRR.out]; rfl, HB6.out⟩
    | true =>
      by_cases h2 : s2 = b
      · have hr : r = IntKind.i64.wrap (worth - s4) := by rw [HR.out]; simp [h2]
        have HRR := Lib.hid hr
        have hne : (s2 != b) = false := by simpa using h2
        clear hr h2
        go_wp2_with fail
        exact bodyPost_ret (v := .int .i64 (wrap64 (worth - s4))) (by simp [results, Try.results111, go_sem]) rfl ⟨by rw [HRR.out, IntWalk.i64_left], HB6.out⟩
      · have hr : r = 0 := by rw [HR.out]; simp [h2]
        have HRR := Lib.hid hr
        have hne : (s2 != b) = true := by simpa using h2
        clear hr h2
        go_wp2_with fail
        exact bodyPost_ret (v := .int .i64 0) (by simp [results, Try.results111, go_sem]) rfl ⟨by rw [HRR.out], HB6.out⟩
  | some k =>
    obtain ⟨o, ho, hob⟩ := atF_get hat
    have hob' : o.b = b := by simpa [isB] using hob
    have hi : atFI (isB b) l = k := by unfold atFI; rw [hat]
    have hlm : l' = l.set k ⟨b, c⟩ := by rw [hl']; unfold laidS; rw [hat]
    have hkl : k < l.length := (List.getElem?_eq_some_iff.1 ho).1
    have HLM := Lib.hid hlm
    have HI := Lib.hid hi
    have HO := Lib.hid ho
    have HOB := Lib.hid hob'
    clear hat hi hlm hl' ho hob hob'
    go_enter Try.func111, Try.ntmps111
    go_wp2_with fail
    refine (clone_sec (Sec.all l) l.length _ R _ (HL.out.alloc _).1 (Sec.all_one l) (by omega)).mono ?_
    rintro e w1 ⟨A1, c1, rfl, hown1, hb1⟩
    have hbx : Blk w1 w.heap.size 3 #[.int .i64 b] := (Blk.new w 3 #[.int .i64 b]).grow hb1
    have HBX := Lib.hid hbx
    have hown1' : w1.ownsRow (w.heap.size + 1) 148 2 (.slice A1 l.length c1) l.length (Sec.all l) := by simpa using hown1
    obtain ⟨g, cm, hform, hgm1, hgm2⟩ := World.ownsRow.form hown1' (by omega)
    injection hform with hA1 _ hc1
    subst hA1 hc1
    have HO1 := Lib.hid hown1'
    have HB1 := Lib.hid (((Below.refl _ _).alloc (Nat.le_refl _) _).trans (hb1.mono (B' := w.heap.size) (by simp)))
    clear hb1 hown1 hown1' hbx
    have e1 : (0 : Int) ≤ (k : Int) := by omega
    have e2 : (k : Int) < (l.length : Int) := by omega
    have e3 : ¬ (k : Int) < 0 := by omega
    go_wp2_with (first
      | (go_at_call 139; refine (indexB_any l b w.heap.size _ _ _ ⟨Sl.of_own HO1.out, HWF.out⟩ (HBX.out.cell 0)).mono ?_; rintro e w2 ⟨rfl, hb2⟩; rw [HI.out]; have HO2 := Lib.hid (own_grow HO1.out hb2); have HB2 := Lib.hid (HB1.out.trans (hb2.mono HB1.out.size)); have HBX2 := Lib.hid (HBX.out.grow hb2); have q0 : w2.cell? ⟨g, k * 2 + 1, none⟩ = some (.int .i64 o.c) := ((own_grow HO1.out hb2).cellAt (k * 2 + 1) (by omega)).trans (Sec.all_snd l k o HO.out); have q1 := (own_grow HO1.out hb2).frozenAt (k * 2 + 1); clear hb2))
    obtain ⟨h1, h2⟩ := HO2.out.stored (k * 2 + 1) (.int .i64 c)
    have hx : (Sec.all l).set (k * 2 + 1) (.int .i64 c) = Sec.all l' := by
      rw [HLM.out, Sec.all_set l k o c HO.out, HOB.out]
    have hll' : l'.length = l.length := by rw [HLM.out]; simp
    have hs4 : Secs (w2.setCell ⟨g, k * 2 + 1, none⟩ (.int .i64 c)) (fun b => (Value.slice (some ⟨g, 0, none⟩) l.length c1).ownBlock = some b) (.slice (some ⟨g, 0, none⟩) l.length c1) l' := by
      refine ⟨?_, fun x hx => ?_⟩
      · rw [hll', ← hx]
        exact Sl.of_own h1
      · rw [HLM.out] at hx
        rcases List.mem_or_eq_of_mem_set hx with h | h
        · exact HWF.out x h
        · subst h
          exact ⟨hb, hc⟩
    have hbx4 : Blk (w2.setCell ⟨g, k * 2 + 1, none⟩ (.int .i64 c)) w.heap.size 3 #[.int .i64 b] := HBX2.out.far (by simp; omega) _
    have hb4 : Below w.heap.size w (w2.setCell ⟨g, k * 2 + 1, none⟩ (.int .i64 c)) := HB2.out.setCell (by simp; omega) _
    obtain ⟨W4, hW4⟩ : ∃ V, V = w2.setCell ⟨g, k * 2 + 1, none⟩ (.int .i64 c) := ⟨_, rfl⟩
    rw [← hW4] at hs4 hbx4 hb4 ⊢
    have HS4 := Lib.hid hs4
    have HBX4 := Lib.hid hbx4
    have HB4 := Lib.hid hb4
    clear h1 h2 hx hs4 hbx4 hb4 hW4 q0 q1
    have hbx4 : Blk W4 w.heap.size 3 #[.int .i64 b] := HBX4.out
    refine (sell_any floor l' _ _ W4 HS4.out).mono ?_
    rintro e w5 ⟨rfl, hb5⟩
    rw [HV.out]
    have hbx5 := hbx4.grow hb5
    have x0 : w5.cell? ⟨w.heap.size, 0, none⟩ = some (.int .i64 b) := hbx5.cell 0
    have x1 : (w5.alloc (.cells #[.bool s1, .int .i64 s2, .int .i64 s3, .int .i64 s4] 150)).cell? ⟨w.heap.size, 0, none⟩ = some (.int .i64 b) := (hbx5.alloc _).cell 0
    have HB6 := Lib.hid ((HB4.out.trans (hb5.mono HB4.out.size)).alloc (HB4.out.trans (hb5.mono HB4.out.size)).size (.cells #[.bool s1, .int .i64 s2, .int .i64 s3, .int .i64 s4] 150))
    clear hb5 hbx4 hbx5
    cases s1 with
    | false =>
      have hr : r = 0 := by rw [HR.out]; simp
      have HRR := Lib.hid hr
      clear hr
      go_wp2_with fail
      go_ret
      exact ⟨by rw [HRR.out]; rfl, HB6.out⟩
    | true =>
      by_cases h2 : s2 = b
      · have hr : r = IntKind.i64.wrap (worth - s4) := by rw [HR.out]; simp [h2]
        have HRR := Lib.hid hr
        have hne : (s2 != b) = false := by simpa using h2
        clear hr h2
        go_wp2_with fail
        exact bodyPost_ret (v := .int .i64 (wrap64 (worth - s4))) (by simp [results, Try.results111, go_sem]) rfl ⟨by rw [HRR.out, IntWalk.i64_left], HB6.out⟩
      · have hr : r = 0 := by rw [HR.out]; simp [h2]
        have HRR := Lib.hid hr
        have hne : (s2 != b) = true := by simpa using h2
        clear hr h2
        go_wp2_with fail
        exact bodyPost_ret (v := .int .i64 0) (by simp [results, Try.results111, go_sem]) rfl ⟨by rw [HRR.out], HB6.out⟩

def sealedT (floor : Int) (l : List Sec) (b worth other : Int) : Value :=
  if wrongE floor l b [worth, other] = 0 then .tuple #[.int .i64 (gainsW floor l b worth worth), .int .i64 (gainsW floor l b worth other), .int .i64 0] else .tuple #[.int .i64 0, .int .i64 0, .int .i64 (wrongE floor l b [worth, other])]
theorem wrongE_bd (floor : Int) (l : List Sec) (b : Int) (ns : List Int) : wrongE floor l b ns = 0 ∨ wrongE floor l b ns = 2 ∨ wrongE floor l b ns = 5 := by
  unfold wrongE
  split
  · exact sellE_bd floor l
  · split
    · exact .inr (.inl rfl)
    · split
      · exact .inr (.inl rfl)
      · exact .inl rfl

set_option maxHeartbeats 1600000 in
theorem sealed_any (floor : Int) (l : List Sec) (b worth other : Int) (v : Value) (R : Nat → Prop) (w : World) (hl : Secs w R v l) (hll : l.length ≤ 1000000)
    (hb : -9223372036854775808 ≤ b ∧ b ≤ 9223372036854775807) (hw : -9223372036854775808 ≤ worth ∧ worth ≤ 9223372036854775807) (ho : -9223372036854775808 ≤ other ∧ other ≤ 9223372036854775807) :
    Calls Try.prog 68 #[.int .i64 floor, v, .int .i64 b, .int .i64 worth, .int .i64 other] w fun e w' => e = .returned (sealedT floor l b worth other) ∧ Below w.heap.size w w' := by
  have HL := Lib.hid hl
  obtain ⟨⟨_, A, cap, rfl, _⟩, _⟩ := id hl
  clear hl
  have hbd := wrongE_bd floor l b [worth, other]
  obtain ⟨z, hz⟩ : ∃ z, z = wrongE floor l b [worth, other] := ⟨_, rfl⟩
  have hs : sealedT floor l b worth other = if z = 0 then .tuple #[.int .i64 (gainsW floor l b worth worth), .int .i64 (gainsW floor l b worth other), .int .i64 0] else .tuple #[.int .i64 0, .int .i64 0, .int .i64 z] := by rw [hz]; rfl
  rw [hs]
  rw [← hz] at hbd
  have HZ := Lib.hid hz
  have hzb : -9223372036854775808 ≤ z ∧ z ≤ 9223372036854775807 := by omega
  clear hs hz hbd
  by_cases h0 : z = 0
  · rw [if_pos h0]
    subst h0
    clear hzb
    go_enter Try.func68, Try.ntmps68
    go_wp2_with fail
    refine (wrong_any floor l b [worth, other] _ _ _ _ _ (HL.out.alloc _) (Sl.new w #[.int .i64 worth, .int .i64 other] _ 2 1 (by unfold maxLen; omega) rfl)).mono ?_
    rintro e w1 ⟨rfl, hb1⟩
    rw [← HZ.out]
    have HB1 := Lib.hid (((Below.refl _ _).alloc (Nat.le_refl _) _).trans (hb1.mono (B' := w.heap.size) (by simp)))
    clear hb1
    go_wp2_with fail
    refine (gains_any floor l b worth worth _ _ w1 (HL.out.grow HB1.out) hll hb hw).mono ?_
    rintro e w2 ⟨rfl, hb2⟩
    have HB2 := Lib.hid (HB1.out.trans (hb2.mono HB1.out.size))
    clear hb2
    go_wp2_with fail
    refine (gains_any floor l b worth other _ _ w2 (HL.out.grow HB2.out) hll hb ho).mono ?_
    rintro e w3 ⟨rfl, hb3⟩
    have HB3 := Lib.hid (HB2.out.trans (hb3.mono HB2.out.size))
    clear hb3
    go_wp2_with fail
    refine bodyPost_ret (v := .tuple #[.int .i64 (gainsW floor l b worth worth), .int .i64 (gainsW floor l b worth other), .int .i64 0]) (by simp [results, Try.results68, go_sem]) rfl ⟨rfl, HB3.out⟩
  · rw [if_neg h0]
    have hcb : (z != 0) = true := by simpa using h0
    clear h0
    go_enter Try.func68, Try.ntmps68
    go_wp2_with fail
    refine (wrong_any floor l b [worth, other] _ _ _ _ _ (HL.out.alloc _) (Sl.new w #[.int .i64 worth, .int .i64 other] _ 2 1 (by unfold maxLen; omega) rfl)).mono ?_
    rintro e w1 ⟨rfl, hb1⟩
    rw [← HZ.out]
    have HB1 := Lib.hid (((Below.refl _ _).alloc (Nat.le_refl _) _).trans (hb1.mono (B' := w.heap.size) (by simp)))
    clear hb1
    go_wp2_with fail
    refine bodyPost_ret (v := .tuple #[.int .i64 0, .int .i64 0, .int .i64 z]) (by simp [results, Try.results68, go_sem]) rfl ⟨rfl, HB1.out⟩

theorem sealed7 : sealedT 0 [⟨1, 7⟩] 0 9 6 = .tuple #[.int .i64 2, .int .i64 0, .int .i64 0] := by
  have h1 : wrongE 0 [⟨1, 7⟩] 0 [9, 6] = 0 := by decide
  have h2 : gainsW 0 [⟨1, 7⟩] 0 9 9 = 2 := by decide
  have h3 : gainsW 0 [⟨1, 7⟩] 0 9 6 = 0 := by decide
  unfold sealedT
  rw [if_pos h1, h2, h3]
end Go.Proofs.Ytcigobiolbojhaa.Vb

/- Law 17's own: what given makes. -/
namespace Go.Proofs.Ytcigobiolbojhaa.Vb
open Go.RowKit

/-- each list in memory of its own, with one offer of 77 behind it -/
def Giv (w : World) (lo : Nat) (v : Value) (bs : List (List Off)) : Prop :=
  ∃ vs, w.ownsRow lo 41 1 v bs.length vs ∧ ∀ (k : Nat) (l : List Off), bs[k]? = some l → ∃ b cap, vs[k]? = some (.slice (some ⟨b, 0, none⟩) l.length cap) ∧
    w.ownsRow lo 45 2 (.slice (some ⟨b, 0, none⟩) (l.length + 1) cap) (l.length + 1) (Off.all (l ++ [⟨77, 0⟩])) ∧ ∀ o ∈ l, o.wf
theorem Giv.grow {w w' : World} {lo : Nat} {v : Value} {bs : List (List Off)} (h : Giv w lo v bs) (hb : Below w.heap.size w w') : Giv w' lo v bs := by
  obtain ⟨vs, hs, ho⟩ := h
  exact ⟨vs, own_grow hs hb, fun k l hk => let ⟨b, c, h1, h2, h3⟩ := ho k l hk; ⟨b, c, h1, own_grow h2 hb, h3⟩⟩
theorem Giv.mono {w : World} {lo lo' : Nat} {v : Value} {bs : List (List Off)} (h : Giv w lo v bs) (hl : lo' ≤ lo) : Giv w lo' v bs := by
  obtain ⟨vs, hs, ho⟩ := h
  exact ⟨vs, own_mono hs hl, fun k l hk => let ⟨b, c, h1, h2, h3⟩ := ho k l hk; ⟨b, c, h1, own_mono h2 hl, h3⟩⟩
theorem own_lo {w w' : World} {lo : Nat} {e : TypeId} {sz n : Nat} {v : Value} {xs : List Value} {row : Option Nat} (h : w.ownsRow lo e sz v n xs) (hg : w.grownBy w' row) (hr : ∀ k, row = some k → k < lo) : w'.ownsRow lo e sz v n xs :=
  own_far h hg fun g e he => by have := (h.lt g he).1; have := hr g e; omega
theorem Giv.far {w w' : World} {lo : Nat} {v : Value} {bs : List (List Off)} {row : Option Nat} (h : Giv w lo v bs) (hg : w.grownBy w' row) (hr : ∀ k, row = some k → k < lo) : Giv w' lo v bs := by
  obtain ⟨vs, hs, ho⟩ := h
  exact ⟨vs, own_lo hs hg hr, fun k l hk => let ⟨b, c, h1, h2, h3⟩ := ho k l hk; ⟨b, c, h1, own_lo h2 hg hr, h3⟩⟩
theorem Giv.buys {w : World} {lo : Nat} {v : Value} {bs : List (List Off)} (h : Giv w lo v bs) : Buys w (fun _ => True) v bs := by
  obtain ⟨vs, hs, ho⟩ := h
  refine ⟨vs, (Sl.of_own hs).mono fun _ _ _ => trivial, fun k l hk => ?_⟩
  obtain ⟨b, c, h1, h2, h3⟩ := ho k l hk
  obtain ⟨_, A, cap, hv, hnc, hcm, hcs⟩ := Sl.of_own h2
  injection hv with hA _ hc
  subst hA hc
  refine ⟨_, h1, ⟨by rw [Off.all_length], _, _, rfl, by omega, hcm, fun h0 => ?_⟩, h3⟩
  obtain ⟨b', off, e, _, hlt, hcell⟩ := hcs (by omega)
  refine ⟨b', off, e, trivial, hlt, fun j u hj => hcell j u ?_⟩
  have : Off.all (l ++ [⟨77, 0⟩]) = Off.all l ++ Off.all [⟨77, 0⟩] := by simp [Off.all]
  rw [this, List.getElem?_append_left (List.getElem?_eq_some_iff.1 hj).1]
  exact hj
/-- One list more. -/
theorem Giv.snoc {w w' : World} {lo : Nat} {v : Value} {bs : List (List Off)} {vs : List Value} {l : List Off} {b cap : Nat} {A' : Option Addr} {cap' n : Nat} (hn : bs.length = n)
    (hs : w.ownsRow lo 41 1 v n vs)
    (ho : ∀ (k : Nat) (l : List Off), bs[k]? = some l → ∃ b cap, vs[k]? = some (.slice (some ⟨b, 0, none⟩) l.length cap) ∧ w.ownsRow lo 45 2 (.slice (some ⟨b, 0, none⟩) (l.length + 1) cap) (l.length + 1) (Off.all (l ++ [⟨77, 0⟩])) ∧ ∀ o ∈ l, o.wf)
    (hl : w.ownsRow lo 45 2 (.slice (some ⟨b, 0, none⟩) (l.length + 1) cap) (l.length + 1) (Off.all (l ++ [⟨77, 0⟩]))) (hw : ∀ o ∈ l, o.wf)
    (hown : w'.ownsRow lo 41 1 (.slice A' (n + 1) cap') (n + 1) (vs ++ [.slice (some ⟨b, 0, none⟩) l.length cap])) (hg : w.grownBy w' v.ownBlock) : Giv w' lo (.slice A' (n + 1) cap') (bs ++ [l]) := by
  subst hn
  have hlen : vs.length = bs.length := by simpa using hs.1
  have step : ∀ {u : Value} {m : Nat} {xs : List Value}, w.ownsRow lo 45 2 u m xs → w'.ownsRow lo 45 2 u m xs := fun h => own_far h hg fun g e => own_ne hs h (by decide) e
  refine ⟨vs ++ [.slice (some ⟨b, 0, none⟩) l.length cap], by simpa using hown, fun k l' hk => ?_⟩
  by_cases hkl : k < bs.length
  · rw [List.getElem?_append_left hkl] at hk
    obtain ⟨b', c', h1, h2, h3⟩ := ho k l' hk
    exact ⟨b', c', by rw [List.getElem?_append_left (by omega)]; exact h1, step h2, h3⟩
  · have : k = bs.length := by
      rcases Nat.lt_or_ge k (bs ++ [l]).length with h | h
      · simp at h; omega
      · rw [List.getElem?_eq_none h] at hk; cases hk
    subst this
    simp at hk
    subst hk
    exact ⟨b, cap, by rw [← hlen]; simp, step hl, hw⟩
end Go.Proofs.Ytcigobiolbojhaa.Vb

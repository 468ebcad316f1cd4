/- Joined by program: Core9 PlainC PlainD PlainE Core10 Core11 Core12 Tru3. -/
import Derived.Test.YtcigobiolbojhaaZg
import Derived.Test.YtcigobiolbojhaaZe
import Derived.Test.YtcigobiolbojhaaZd
/- core: Tight. -/
namespace Go.Proofs.Ytcigobiolbojhaa.Vb
open Go.RowKit

def tightAt (n : Int) (bs : List (List Off)) (pay : List Int) (i : Nat) : Bool := !winB (bestC n bs) i || decide (leastI n bs pay i = pay[i]?.getD 0)
def tightTo (n : Int) (bs : List (List Off)) (pay : List Int) (k : Nat) : Bool := (List.range k).all (tightAt n bs pay)
def tightB (n : Int) (bs : List (List Off)) (pay : List Int) : Bool := decide (askE n bs pay = 0) && !blockB n bs pay && tightTo n bs pay bs.length

end Go.Proofs.Ytcigobiolbojhaa.Vb

/- Plain: the core's payments: nobody blocks at any step; none could pay less. -/
namespace Go.Proofs.Ytcigobiolbojhaa.Vb
open Go.RowKit

theorem lowL_add {c d : Int} (hd : 0 ≤ d) : ∀ l : List Off, lowL (c + d) l = lowL d (lowL c l)
  | [] => rfl
  | o :: l => by
    have ih := lowL_add (c := c) hd l
    unfold lowL at *
    by_cases h1 : c + d < o.c
    · have h2 : c < o.c := by omega
      have h3 : d < o.c - c := by omega
      simp only [List.filter_cons, h1, h2, decide_true, if_true, List.map_cons, h3, ih]
      congr 2
      omega
    · by_cases h2 : c < o.c
      · have h3 : ¬ d < o.c - c := by omega
        simp only [List.filter_cons, h1, h2, decide_true, decide_false, if_true, List.map_cons, h3, ih, Bool.false_eq_true, if_false]
      · simp only [List.filter_cons, h1, h2, decide_false, Bool.false_eq_true, if_false, ih]
theorem lowL_zero : ∀ l : List Off, (∀ o ∈ l, 0 < o.c) → lowL 0 l = l
  | [], _ => rfl
  | o :: l, h => by
    have ih := lowL_zero l (fun x hx => h x (by simp [hx]))
    have h1 := h o (by simp)
    unfold lowL at *
    simp only [List.filter_cons, h1, decide_true, if_true, List.map_cons, ih]
    obtain ⟨g, c⟩ := o
    simp
theorem lowL_mem {d : Int} {l : List Off} {o : Off} (h : o ∈ l) (hd : d < o.c) : (⟨o.g, o.c - d⟩ : Off) ∈ lowL d l := by
  simp only [lowL, List.mem_map, List.mem_filter, decide_eq_true_eq]
  exact ⟨o, ⟨h, hd⟩, rfl⟩
theorem lowL_of {d : Int} {l : List Off} {x : Off} (h : x ∈ lowL d l) : ∃ o ∈ l, x.g = o.g ∧ x.c = o.c - d := by
  simp only [lowL, List.mem_map, List.mem_filter, decide_eq_true_eq] at h
  obtain ⟨o, ⟨ho, _⟩, rfl⟩ := h
  exact ⟨o, ho, rfl, rfl⟩

/-- one list lowered: either that buyer is not missed, or all loses as much -/
theorem W_low1 {d : Int} : ∀ (bs : List (List Off)) (k f : Nat) (l : List Off), bs[k]? = some l → W (bs.set k (lowL d l)) f ≤ max (W (bs.set k []) f) (W bs f - d)
  | [], k, f, l, h => by simp at h
  | l0 :: bs, 0, f, l, h => by
    simp at h
    subst h
    simp only [List.set_cons_zero, W, List.foldl_nil]
    rcases fold_att (g := W bs) (f := f) (lowL d l0) (W bs f) with h | ⟨x, hx, hxf, he⟩
    · omega
    · obtain ⟨o, ho, hg, hc⟩ := lowL_of hx
      rw [hg] at hxf
      have := fold_mem (g := W bs) (f := f) l0 (W bs f) o ho hxf
      rw [hg] at he
      omega
  | l0 :: bs, k + 1, f, l, h => by
    have ih := fun x => W_low1 (d := d) bs k x l (by simpa using h)
    simp only [List.set_cons_succ, W]
    rcases fold_att (g := W (bs.set k (lowL d l))) (f := f) l0 (W (bs.set k (lowL d l)) f) with h | ⟨o, ho, hof, he⟩
    · have h1 := ih f
      have h2 := fold_ge (W (bs.set k [])) f l0 (W (bs.set k []) f)
      have h3 := fold_ge (W bs) f l0 (W bs f)
      omega
    · have h1 := ih (andNot f o.g)
      have h2 := fold_mem (g := W (bs.set k [])) (f := f) l0 (W (bs.set k []) f) o ho hof
      have h3 := fold_mem (g := W bs) (f := f) l0 (W bs f) o ho hof
      omega
theorem SubG_andNot (f g : Nat) (hg : g < 4294967296) : SubG (andNot f g) f := andNot_sub hg
/-- .. and no more than as much -/
theorem W_low2 {d : Int} (hd : 0 ≤ d) : ∀ (bs : List (List Off)) (k f : Nat) (l : List Off), GoodL bs → f < 4294967296 → bs[k]? = some l → W bs f ≤ W (bs.set k (lowL d l)) f + d
  | [], k, f, l, _, _, h => by simp at h
  | l0 :: bs, 0, f, l, hg, hf, h => by
    simp at h
    subst h
    have hg' : GoodL bs := fun x hx => hg x (by simp [hx])
    simp only [List.set_cons_zero, W]
    have h0 := fold_ge (W bs) f (lowL d l0) (W bs f)
    rcases fold_att (g := W bs) (f := f) l0 (W bs f) with h | ⟨o, ho, hof, he⟩
    · omega
    · by_cases hlt : d < o.c
      · have := fold_mem (g := W bs) (f := f) (lowL d l0) (W bs f) _ (lowL_mem ho hlt) hof
        simp only at this
        omega
      · have hog := hg l0 (by simp) o ho
        have := W_free bs (andNot f o.g) f hg' (andNot_lt hf) hf (SubG_andNot f o.g hog)
        omega
  | l0 :: bs, k + 1, f, l, hg, hf, h => by
    have hg' : GoodL bs := fun x hx => hg x (by simp [hx])
    have ih := fun x hx => W_low2 hd bs k x l hg' hx (by simpa using h)
    simp only [List.set_cons_succ, W]
    rcases fold_att (g := W bs) (f := f) l0 (W bs f) with h | ⟨o, ho, hof, he⟩
    · have h1 := ih f hf
      have h2 := fold_ge (W (bs.set k (lowL d l))) f l0 (W (bs.set k (lowL d l)) f)
      omega
    · have h1 := ih (andNot f o.g) (andNot_lt hf)
      have h2 := fold_mem (g := W (bs.set k (lowL d l))) (f := f) l0 (W (bs.set k (lowL d l)) f) o ho hof
      omega

theorem sumI_set {l : List Int} {k : Nat} {x y : Int} (h : l[k]? = some y) : sumI (l.set k x) = sumI l - y + x := by
  induction l generalizing k with
  | nil => simp at h
  | cons a l ih =>
    cases k with
    | zero => simp at h; subst h; simp only [List.set_cons_zero, sumI]; omega
    | succ k => simp only [List.set_cons_succ, sumI]; rw [ih (by simpa using h)]; omega
/-- what winners bid is what it is worth -/
theorem bids_sum : ∀ (bs : List (List Off)) (f : Nat), sumI ((choose bs f).mapIdx fun i c => coinAt bs i c) = W bs f
  | [], f => by simp [choose, sumI, W]
  | l :: bs, f => by
    have hc : ∀ (i : Nat) (c : Int), coinAt (l :: bs) (i + 1) c = coinAt bs i c := fun i c => by simp [coinAt]
    simp only [choose, List.mapIdx_cons, sumI, hc]
    unfold pickN
    cases hp : pickAt (W bs) f (W (l :: bs) f) l with
    | none =>
      simp only []
      rw [bids_sum bs f, coinAt_neg (by omega), pick_none_W hp]
      omega
    | some p =>
      obtain ⟨j, x⟩ := p
      obtain ⟨o, ho, hx, hf, he, _⟩ := pickAt_get' hp
      simp only []
      rw [bids_sum bs (andNot f x), coinAt_some (l := l) (o := o) rfl ho, ← hx]
      exact he
theorem bidsC_sum (n : Int) (bs : List (List Off)) : sumI (bidsC n bs) = W bs (allOf n) := bids_sum bs (allOf n)
end Go.Proofs.Ytcigobiolbojhaa.Vb

/- Plain: the core's payments, step by step. -/
namespace Go.Proofs.Ytcigobiolbojhaa.Vb
open Go.RowKit

def payStep (n : Int) (bs : List (List Off)) (p : List Int) (k : Nat) : List Int := if winB (bestC n bs) k = true then p.set k (leastI n bs p k) else p
def payTo (n : Int) (bs : List (List Off)) : Nat → List Int
  | 0 => bidsC n bs
  | k + 1 => payStep n bs (payTo n bs k) k
/-- what is missed without buyer i, less what the others pay -/
def missI (n : Int) (bs : List (List Off)) (p : List Int) (i : Nat) : Int := W ((lowB n bs p).set i []) (allOf n) - (sumI p - p[i]?.getD 0)

section
variable {n : Int} {bs : List (List Off)}

theorem lowB_set {p : List Int} {k : Nat} {l : List Off} {x y b : Int} (hl : bs[k]? = some l) (hp : p[k]? = some y) (hb : (bidsC n bs)[k]? = some b) (hx : x ≤ y) :
    lowB n bs (p.set k x) = (lowB n bs p).set k (lowL (y - x) (lowL (b - y) l)) := by
  apply List.ext_getElem?
  intro i
  have hkp : k < p.length := (List.getElem?_eq_some_iff.mp hp).1
  have hkb : k < bs.length := (List.getElem?_eq_some_iff.mp hl).1
  by_cases hik : k = i
  · subst hik
    rw [List.getElem?_set_self (by rw [lowB_length]; exact hkb), ← lowL_add (by omega), show b - y + (y - x) = b - x from by omega]
    exact lowB_get hl (by rw [List.getElem?_set_self hkp]) hb
  · rw [List.getElem?_set_ne hik]
    simp only [lowB, List.getElem?_mapIdx]
    rw [List.getElem?_set_ne hik]
theorem payL_at {p : List Int} (hok : payL p (bidsC n bs) = true) {k : Nat} (hk : k < bs.length) : ∃ y b l, p[k]? = some y ∧ (bidsC n bs)[k]? = some b ∧ bs[k]? = some l ∧ 0 ≤ y ∧ y ≤ b := by
  obtain ⟨h1, h2⟩ := (payL_iff _ _).mp hok
  have hb : k < (bidsC n bs).length := by rw [bidsC_length]; exact hk
  have hp : k < p.length := by omega
  have e1 := List.getElem?_eq_getElem hb
  have e2 := List.getElem?_eq_getElem hp
  obtain ⟨h3, h4⟩ := h2 k _ _ e2 e1
  exact ⟨_, _, _, e2, e1, List.getElem?_eq_getElem hk, h3, h4⟩
theorem payL_set {p : List Int} (hok : payL p (bidsC n bs) = true) {k : Nat} {x y : Int} (hp : p[k]? = some y) (h0 : 0 ≤ x) (h1 : x ≤ y) : payL (p.set k x) (bidsC n bs) = true := by
  rw [payL_iff] at hok ⊢
  refine ⟨by rw [List.length_set]; exact hok.1, fun i q b hq hb => ?_⟩
  by_cases hik : k = i
  · subst hik
    rw [List.getElem?_set_self (List.getElem?_eq_some_iff.mp hp).1] at hq
    injection hq with hq
    have := hok.2 k y b hp hb
    omega
  · rw [List.getElem?_set_ne hik] at hq
    exact hok.2 i q b hq hb
theorem leastI_eq {p : List Int} (hi : instE n bs = 0) (hok : payL p (bidsC n bs) = true) {k : Nat} (hk : k < bs.length) : leastI n bs p k = max 0 (missI n bs p k) := by
  have hwe : withE n (lowB n bs p) (k : Int) [] = 0 := instE_withE (instE_low hi hok) (by rw [lowB_length]; exact hk)
  unfold leastI missI woW
  rw [if_pos hwe, Int.toNat_natCast]
theorem goodL_low (hwf : ∀ l ∈ bs, ∀ o ∈ l, o.wf) {p : List Int} (hok : payL p (bidsC n bs) = true) : GoodL (lowB n bs p) := fun l hl o ho => (lowB_wf hwf hok l hl o ho).1
theorem allOf_lt' (hi : instE n bs = 0) : allOf n < 4294967296 := by
  obtain ⟨h1, h2, _⟩ := instE_zero hi
  obtain ⟨m, rfl⟩ : ∃ m : Nat, n = (m : Int) := ⟨n.toNat, by omega⟩
  rw [allOf_nat (by omega)]
  have : 2 ^ m ≤ 2 ^ 10 := Nat.pow_le_pow_right (by omega) (by omega)
  omega

/-- lower one payment: what is missed without i, less what others pay, does not fall -/
theorem miss_set (hi : instE n bs = 0) (hwf : ∀ l ∈ bs, ∀ o ∈ l, o.wf) {p : List Int} (hok : payL p (bidsC n bs) = true) {j i : Nat} {x : Int} (hj : j < bs.length) (hib : i < bs.length) (h0 : 0 ≤ x) (hx : ∀ y, p[j]? = some y → x ≤ y) :
    missI n bs p i ≤ missI n bs (p.set j x) i := by
  obtain ⟨y, b, l, hy, hb, hl, hy0, hyb⟩ := payL_at hok hj
  have hxy := hx y hy
  have hs := sumI_set (x := x) hy
  have hjp := (List.getElem?_eq_some_iff.mp hy).1
  unfold missI
  rw [lowB_set hl hy hb hxy, hs]
  by_cases hji : j = i
  · subst hji
    rw [List.set_set, List.getElem?_set_self hjp, hy]
    simp only [Option.getD_some]
    omega
  · rw [List.set_comm _ _ hji, List.getElem?_set_ne hji]
    have hlow := lowB_get hl hy hb
    have hg : GoodL ((lowB n bs p).set i []) := fun l' hl' o ho => by
      rcases List.mem_or_eq_of_mem_set hl' with h | h
      · exact goodL_low hwf hok l' h o ho
      · subst h; cases ho
    have := W_low2 (d := y - x) (by omega) ((lowB n bs p).set i []) j (allOf n) (lowL (b - y) l) hg (allOf_lt' hi) (by rw [List.getElem?_set_ne (Ne.symm hji)]; exact hlow)
    omega

/-- nobody blocks -/
def FreeP (n : Int) (bs : List (List Off)) (p : List Int) : Prop := payL p (bidsC n bs) = true ∧ W (lowB n bs p) (allOf n) ≤ sumI p

theorem least_le (hi : instE n bs = 0) {p : List Int} (h : FreeP n bs p) {k : Nat} {y : Int} (hk : k < bs.length) (hy : p[k]? = some y) : 0 ≤ leastI n bs p k ∧ leastI n bs p k ≤ y := by
  obtain ⟨y', b, l, hy', _, _, h0, _⟩ := payL_at h.1 hk
  obtain rfl : y = y' := by rw [hy] at hy'; injection hy'
  rw [leastI_eq hi h.1 hk]
  have h1 := W_set_le (lowB n bs p) k (allOf n)
  have h2 := h.2
  unfold missI
  rw [hy]
  simp only [Option.getD_some]
  omega
theorem free_step (hi : instE n bs = 0) {p : List Int} (h : FreeP n bs p) {k : Nat} (hk : k < bs.length) : FreeP n bs (p.set k (leastI n bs p k)) := by
  obtain ⟨y, b, l, hy, hb, hl, h0, hyb⟩ := payL_at h.1 hk
  obtain ⟨h1, h2⟩ := least_le hi h hk hy
  refine ⟨payL_set h.1 hy h1 h2, ?_⟩
  rw [lowB_set hl hy hb h2, sumI_set hy]
  have hlow := lowB_get hl hy hb
  have h3 := W_low1 (d := y - leastI n bs p k) (lowB n bs p) k (allOf n) _ hlow
  have h4 := h.2
  have h5 : missI n bs p k ≤ leastI n bs p k := by rw [leastI_eq hi h.1 hk]; omega
  unfold missI at h5
  rw [hy] at h5
  simp only [Option.getD_some] at h5
  omega
theorem bids_ok (hi : instE n bs = 0) (hwf : ∀ l ∈ bs, ∀ o ∈ l, o.wf) : payL (bidsC n bs) (bidsC n bs) = true := by
  rw [payL_iff]
  refine ⟨rfl, fun i p b hp hb => ?_⟩
  rw [hp] at hb
  injection hb with hb
  have := coin_bd hi hwf hp
  omega
theorem low_bids (hi : instE n bs = 0) (hwf : ∀ l ∈ bs, ∀ o ∈ l, o.wf) : lowB n bs (bidsC n bs) = bs := by
  apply List.ext_getElem?
  intro i
  simp only [lowB, List.getElem?_mapIdx, Int.sub_self]
  cases h : bs[i]? with
  | none => rfl
  | some l =>
    simp only [Option.map_some]
    rw [lowL_zero l (fun o ho => by have := ((okb_of hwf hi).1.2 l (List.mem_of_getElem? h)).2 o ho; have := this.2.2.1; omega)]
theorem free_bids (hi : instE n bs = 0) (hwf : ∀ l ∈ bs, ∀ o ∈ l, o.wf) : FreeP n bs (bidsC n bs) :=
  ⟨bids_ok hi hwf, by rw [low_bids hi hwf, bidsC_sum]; exact Int.le_refl _⟩
theorem free_to (hi : instE n bs = 0) (hwf : ∀ l ∈ bs, ∀ o ∈ l, o.wf) : ∀ k, k ≤ bs.length → FreeP n bs (payTo n bs k)
  | 0, _ => free_bids hi hwf
  | k + 1, hk => by
    have ih := free_to hi hwf k (by omega)
    unfold payTo payStep
    split
    · exact free_step hi ih (by omega)
    · exact ih
theorem payTo_len (hi : instE n bs = 0) (hwf : ∀ l ∈ bs, ∀ o ∈ l, o.wf) {k : Nat} (hk : k ≤ bs.length) : (payTo n bs k).length = bs.length := pay_len (free_to hi hwf k hk).1

/-- q is nowhere more than p -/
def LeP (q p : List Int) : Prop := ∀ (i : Nat) (a b : Int), q[i]? = some a → p[i]? = some b → a ≤ b
theorem miss_to (hi : instE n bs = 0) (hwf : ∀ l ∈ bs, ∀ o ∈ l, o.wf) {i : Nat} (hib : i < bs.length) : ∀ (d k : Nat), k + d ≤ bs.length → missI n bs (payTo n bs k) i ≤ missI n bs (payTo n bs (k + d)) i
  | 0, k, _ => Int.le_refl _
  | d + 1, k, h => by
    refine Int.le_trans (miss_to hi hwf hib d k (by omega)) ?_
    have hf := free_to hi hwf (k + d) (by omega)
    show _ ≤ missI n bs (payStep n bs (payTo n bs (k + d)) (k + d)) i
    unfold payStep
    split
    · obtain ⟨y, _, _, hy, _⟩ := payL_at hf.1 (show k + d < bs.length by omega)
      exact miss_set hi hwf hf.1 (by omega) hib (least_le hi hf (by omega) hy).1 (fun y hy => (least_le hi hf (by omega) hy).2)
    · exact Int.le_refl _
theorem later_same (hi : instE n bs = 0) (hwf : ∀ l ∈ bs, ∀ o ∈ l, o.wf) {i : Nat} : ∀ (d k : Nat), i < k → k + d ≤ bs.length → (payTo n bs (k + d))[i]? = (payTo n bs k)[i]?
  | 0, k, _, _ => rfl
  | d + 1, k, h1, h2 => by
    rw [← later_same hi hwf d k h1 (by omega)]
    show (payStep n bs (payTo n bs (k + d)) (k + d))[i]? = _
    unfold payStep
    split
    · rw [List.getElem?_set_ne (by omega)]
    · rfl
/-- in the end each winner pays the least -/
theorem tight_to (hi : instE n bs = 0) (hwf : ∀ l ∈ bs, ∀ o ∈ l, o.wf) {i : Nat} (hib : i < bs.length) (hw : winB (bestC n bs) i = true) : (payTo n bs bs.length)[i]? = some (leastI n bs (payTo n bs bs.length) i) := by
  have hf := free_to hi hwf bs.length (Nat.le_refl _)
  have hfi := free_to hi hwf i (by omega)
  obtain ⟨y, b, l, hy, hb, hl, h0, h1⟩ := payL_at hf.1 hib
  have h2 := (least_le hi hf hib hy).2
  have h3 := later_same hi hwf (i := i) (bs.length - (i + 1)) (i + 1) (by omega) (by omega)
  rw [show i + 1 + (bs.length - (i + 1)) = bs.length from by omega, hy] at h3
  have hli : i < (payTo n bs i).length := by rw [payTo_len hi hwf (by omega)]; exact hib
  have h4 : (payTo n bs (i + 1))[i]? = some (leastI n bs (payTo n bs i) i) := by
    show (payStep n bs (payTo n bs i) i)[i]? = _
    unfold payStep
    rw [if_pos hw, List.getElem?_set_self hli]
  rw [h4] at h3
  injection h3 with h3
  have h5 := miss_to hi hwf hib (bs.length - i) i (by omega)
  rw [show i + (bs.length - i) = bs.length from by omega] at h5
  rw [leastI_eq hi hfi.1 hib] at h3
  rw [leastI_eq hi hf.1 hib] at h2 ⊢
  rw [hy]
  congr 1
  omega
end
end Go.Proofs.Ytcigobiolbojhaa.Vb

/- Plain: whoever pays less is blocked; what all cost the others. -/
namespace Go.Proofs.Ytcigobiolbojhaa.Vb
open Go.RowKit

def mixP (p q : List Int) : Nat → List Int
  | 0 => p
  | k + 1 => (mixP p q k).set k (q[k]?.getD 0)
section
variable {n : Int} {bs : List (List Off)}

theorem lose_bid {i : Nat} {b : Int} (hw : winB (bestC n bs) i = false) (hb : (bidsC n bs)[i]? = some b) : b = 0 := by
  have hib : i < (bestC n bs).length := by have := (List.getElem?_eq_some_iff.mp hb).1; rwa [bidsC_length, ← show (bestC n bs).length = bs.length from choose_length _ _] at this
  have hc := List.getElem?_eq_getElem hib
  rw [bidsC_get hc] at hb
  injection hb with hb
  unfold winB at hw
  rw [hc] at hw
  simp at hw
  rw [coinAt_neg hw] at hb
  exact hb.symm
/-- what each costs the others -/
def costsL (n : Int) (bs : List (List Off)) : List Int := (List.range bs.length).map (missI n bs (bidsC n bs))
theorem costs_get {i : Nat} (h : i < bs.length) : (costsL n bs)[i]? = some (missI n bs (bidsC n bs) i) := by simp [costsL, h]
theorem cost_eq (hi : instE n bs = 0) (hwf : ∀ l ∈ bs, ∀ o ∈ l, o.wf) {i : Nat} {b : Int} (hb : (bidsC n bs)[i]? = some b) : missI n bs (bidsC n bs) i = W (bs.set i []) (allOf n) - (W bs (allOf n) - b) := by
  unfold missI
  rw [low_bids hi hwf, bidsC_sum, hb]
  rfl
theorem cost_bd (hi : instE n bs = 0) (hwf : ∀ l ∈ bs, ∀ o ∈ l, o.wf) {i : Nat} {b : Int} (hb : (bidsC n bs)[i]? = some b) : 0 ≤ missI n bs (bidsC n bs) i ∧ missI n bs (bidsC n bs) i ≤ b := by
  rw [cost_eq hi hwf hb]
  have hib : i < bs.length := by have := (List.getElem?_eq_some_iff.mp hb).1; rwa [bidsC_length] at this
  have h1 := W_set_le bs i (allOf n)
  have hbl : i < (bestC n bs).length := by rw [show (bestC n bs).length = bs.length from choose_length _ _]; exact hib
  have hc := List.getElem?_eq_getElem hbl
  rw [bidsC_get hc] at hb
  injection hb with hb
  rcases choose_get bs (allOf n) i _ hc with h | ⟨j, l, o, h, hl, ho⟩
  · rw [h] at hb hc
    have := W_loser bs i (allOf n) hc
    rw [coinAt_neg (by omega)] at hb
    omega
  · rw [h] at hb hc
    rw [coinAt_some hl ho] at hb
    have := W_win bs i (allOf n) j l o (fun l hl o ho => (hwf l hl o ho).1) (allOf_lt' hi) hc hl ho
    omega
theorem cost_le_pay (hi : instE n bs = 0) (hwf : ∀ l ∈ bs, ∀ o ∈ l, o.wf) : LeP (costsL n bs) (payTo n bs bs.length) := by
  intro i a b ha hb
  have hf := free_to hi hwf bs.length (Nat.le_refl _)
  have hib : i < bs.length := by have := (List.getElem?_eq_some_iff.mp hb).1; rwa [pay_len hf.1] at this
  rw [costs_get hib] at ha
  injection ha with ha
  subst ha
  obtain ⟨y, bd, l, hy, hbd, _, h0, h1⟩ := payL_at hf.1 hib
  obtain rfl : b = y := by rw [hb] at hy; injection hy
  cases hw : winB (bestC n bs) i with
  | false =>
    have := (cost_bd hi hwf hbd).2
    have := lose_bid hw hbd
    omega
  | true =>
    have h2 := tight_to hi hwf hib hw
    rw [hb] at h2
    injection h2 with h2
    rw [leastI_eq hi hf.1 hib] at h2
    have h3 := miss_to hi hwf hib bs.length 0 (by omega)
    rw [Nat.zero_add] at h3
    have h4 : payTo n bs 0 = bidsC n bs := rfl
    rw [h4] at h3
    omega
end
end Go.Proofs.Ytcigobiolbojhaa.Vb

/- core.Steps: what its closures share; one lowering. -/
namespace Go.Proofs.Ytcigobiolbojhaa.Vb
open Go.RowKit

theorem et_rows : ElemT Try.prog 161 34 1 24 := elemT_of Try.underlying161 (by omega) (z := .slice none 0 0) (by kernel_rfl) rfl

/-- the payments behind each lowering -/
def rowsTo (n : Int) (bs : List (List Off)) : Nat → List (List Int)
  | 0 => []
  | k + 1 => if winB (bestC n bs) k = true then rowsTo n bs k ++ [payTo n bs (k + 1)] else rowsTo n bs k
theorem rowsTo_len (n : Int) (bs : List (List Off)) : ∀ k, (rowsTo n bs k).length = (whoTo (bestC n bs) k).length
  | 0 => rfl
  | k + 1 => by
    have ih := rowsTo_len n bs k
    unfold rowsTo
    cases h : winB (bestC n bs) k with
    | true => rw [whoTo_yes h]; simp [ih]
    | false => rw [whoTo_no h]; simp [ih]
theorem rowsTo_mem {n : Int} {bs : List (List Off)} : ∀ {k : Nat} {l : List Int}, l ∈ rowsTo n bs k → ∃ j, j ≤ k ∧ l = payTo n bs j
  | 0, l, h => by simp [rowsTo] at h
  | k + 1, l, h => by
    unfold rowsTo at h
    split at h
    · rcases List.mem_append.1 h with h | h
      · obtain ⟨j, hj, e⟩ := rowsTo_mem h
        exact ⟨j, by omega, e⟩
      · exact ⟨k + 1, by omega, by simpa using h⟩
    · obtain ⟨j, hj, e⟩ := rowsTo_mem h
      exact ⟨j, by omega, e⟩

theorem Mid.grown {a b : Nat} {w w1 w2 : World} {row : Option Nat} (h : Mid a b w w1) (hg : w1.grownBy w2 row) (hr : ∀ r, row = some r → a ≤ r ∧ (r < b ∨ w.heap.size ≤ r)) (ha : a ≤ w1.heap.size) : Mid a b w w2 :=
  ⟨h.1.grown hg ha (fun r e => (hr r e).1), fun i hi hl => (hg.block i (Nat.lt_of_lt_of_le hl h.1.size) (fun e => by have := (hr i e.symm).2; omega)).trans (h.2 i hi hl)⟩
theorem Mid.trans_grow {a b : Nat} {w w1 w2 : World} (h : Mid a b w w1) (hb : Below w1.heap.size w1 w2) (ha : a ≤ w1.heap.size) : Mid a b w w2 :=
  h.grown (grownBy_of_below hb none) (fun r e => by cases e) ha

/-- rows of numbers in memory of their own -/
def RowsI (w : World) (c : Nat) (not : Nat → Prop) (va : Value) (ls : List (List Int)) : Prop :=
  ∃ vs : List Value, w.ownsRow c 34 1 va ls.length vs ∧ ∀ (j : Nat) (l : List Int), ls[j]? = some l → ∃ u, vs[j]? = some u ∧ Sl w (fun b => c ≤ b ∧ ¬ not b ∧ va.ownBlock ≠ some b) u l.length 1 (ints l)
theorem RowsI.grown {w w' : World} {c : Nat} {not : Nat → Prop} {va : Value} {ls : List (List Int)} {row : Option Nat} (h : RowsI w c not va ls) (hg : w.grownBy w' row) (hr : ∀ r, row = some r → (r < c ∨ not r) ∧ va.ownBlock ≠ some r) : RowsI w' c not va ls := by
  obtain ⟨vs, hs, ho⟩ := h
  refine ⟨vs, own_far hs hg (fun r e => (hr r e).2), fun j l hj => ?_⟩
  obtain ⟨u, hu, hl⟩ := ho j l hj
  exact ⟨u, hu, hl.grown hg fun b _ hb e => by
    rcases (hr b e.symm).1 with h | h
    · have := hb.1; omega
    · exact hb.2.1 h⟩
theorem RowsI.grow {w w' : World} {c : Nat} {not : Nat → Prop} {va : Value} {ls : List (List Int)} (h : RowsI w c not va ls) (hb : Below w.heap.size w w') : RowsI w' c not va ls :=
  h.grown (grownBy_of_below hb none) (fun r e => by cases e)
/-- other blocks are set aside -/
theorem RowsI.aside {w : World} {c : Nat} {not not' : Nat → Prop} {va : Value} {ls : List (List Int)} (h : RowsI w c not va ls) (hn : ∀ b, b < w.heap.size → not' b → not b) : RowsI w c not' va ls := by
  obtain ⟨vs, hs, ho⟩ := h
  refine ⟨vs, hs, fun j l hj => ?_⟩
  obtain ⟨u, hu, hl⟩ := ho j l hj
  exact ⟨u, hu, hl.mono fun b hlt hb => ⟨hb.1, fun h' => hb.2.1 (hn b hlt h'), hb.2.2⟩⟩
/-- one row more -/
theorem RowsI.snoc {w w' : World} {c m : Nat} {not : Nat → Prop} {v : Value} {ls : List (List Int)} {vs : List Value} {l : List Int} {u : Value} {A' : Option Addr} {cap' : Nat} (hm : ls.length = m)
    (hs : w.ownsRow c 34 1 v m vs) (ho : ∀ (j : Nat) (l : List Int), ls[j]? = some l → ∃ u, vs[j]? = some u ∧ Sl w (fun b => c ≤ b ∧ ¬ not b ∧ v.ownBlock ≠ some b) u l.length 1 (ints l))
    (hl : Sl w (fun b => c ≤ b ∧ ¬ not b ∧ v.ownBlock ≠ some b) u l.length 1 (ints l))
    (hown : w'.ownsRow c 34 1 (.slice A' (m + 1) cap') (m + 1) (vs ++ [u])) (hg : w.grownBy w' v.ownBlock)
    (hloc : (Value.slice A' (m + 1) cap').ownBlock = v.ownBlock ∨ (Value.slice A' (m + 1) cap').ownBlock = some w.heap.size) : RowsI w' c not (.slice A' (m + 1) cap') (ls ++ [l]) := by
  subst hm
  have hlen : vs.length = ls.length := by simpa using hs.1
  have step : ∀ {u : Value} {l : List Int}, Sl w (fun b => c ≤ b ∧ ¬ not b ∧ v.ownBlock ≠ some b) u l.length 1 (ints l) → Sl w' (fun b => c ≤ b ∧ ¬ not b ∧ (Value.slice A' (ls.length + 1) cap').ownBlock ≠ some b) u l.length 1 (ints l) := by
    intro u l h
    refine (h.sized.grown hg fun b _ hb e => hb.1.2.2 e.symm).mono fun b _ hb => ⟨hb.1.1, hb.1.2.1, fun e => ?_⟩
    rcases hloc with e' | e'
    · exact hb.1.2.2 (e'.symm.trans e)
    · rw [e'] at e
      injection e with e
      omega
  refine ⟨vs ++ [u], by simpa using hown, fun k l' hk => ?_⟩
  by_cases hkl : k < ls.length
  · rw [List.getElem?_append_left hkl] at hk
    obtain ⟨u', hu', ho'⟩ := ho k l' hk
    exact ⟨u', by rw [List.getElem?_append_left (by omega)]; exact hu', step ho'⟩
  · have : k = ls.length := by
      rcases Nat.lt_or_ge k (ls ++ [l]).length with h | h
      · simp at h; omega
      · rw [List.getElem?_eq_none h] at hk; cases hk
    subst this
    simp at hk
    subst hk
    exact ⟨u, by rw [← hlen]; simp, step hl⟩

/-- what the closures of Steps share: all at a + 1, who at a + 2, what is paid at b7; behind the first k buyers -/
def StepsAt (w W6 : World) (a b7 : Nat) (n : Int) (bs : List (List Off)) (k : Nat) : Prop :=
  ∃ (Ap : Option Addr) (cp : Nat) (Aw : Option Addr) (cw : Nat) (Aa : Option Addr) (ca : Nat), Mid (a + 1) (a + 3) W6 w ∧ W6.heap.size ≤ b7 ∧ a + 3 ≤ W6.heap.size ∧ (Value.slice Aa (whoTo (bestC n bs) k).length ca).ownBlock ≠ some b7 ∧
    Blk w b7 34 #[.slice Ap bs.length cp] ∧ w.ownsRow W6.heap.size 2 1 (.slice Ap bs.length cp) bs.length (ints (payTo n bs k)) ∧
    Blk w (a + 2) 33 #[.slice Aw (whoTo (bestC n bs) k).length cw] ∧ w.ownsRow W6.heap.size 3 1 (.slice Aw (whoTo (bestC n bs) k).length cw) (whoTo (bestC n bs) k).length (ints (whoTo (bestC n bs) k)) ∧
    Blk w (a + 1) 161 #[.slice Aa (whoTo (bestC n bs) k).length ca] ∧ RowsI w W6.heap.size (fun b => b = b7 ∨ (Value.slice Ap bs.length cp).ownBlock = some b ∨ (Value.slice Aw (whoTo (bestC n bs) k).length cw).ownBlock = some b) (.slice Aa (whoTo (bestC n bs) k).length ca) (rowsTo n bs k)
end Go.Proofs.Ytcigobiolbojhaa.Vb

/- core.Steps: one lowering. -/
namespace Go.Proofs.Ytcigobiolbojhaa.Vb
open Go.RowKit

set_option maxRecDepth 100000 in
set_option maxHeartbeats 3200000 in
theorem steps1_any (n : Int) (bs : List (List Off)) (v : Value) (a b5 b7 g lo : Nat) (A : Option Addr) (cap k : Nat) (hk : k < bs.length) (hwin : winB (bestC n bs) k = true) (hi : instE n bs = 0) (w W6 : World)
    (hs : StepsAt w W6 a b7 n bs k) (hx : Buys W6 (· < a + 1) v bs) (h5 : Blk W6 b5 153 #[.pointer (some ⟨g, 0, none⟩)]) (h5' : a + 3 ≤ b5) (hwon : WonAt W6 lo g n v bs A cap) (hlo : a + 3 ≤ lo) :
    Calls Try.prog 96 #[.int .i64 (k : Int), .pointer (some ⟨b5, 0, none⟩), .pointer (some ⟨b7, 0, none⟩), .pointer (some ⟨a + 2, 0, none⟩), .pointer (some ⟨a + 1, 0, none⟩)] w fun e w' => (∃ r, e = .returned r) ∧ StepsAt w' W6 a b7 n bs (k + 1) := by
  obtain ⟨Ap, cp, Aw, cw, Aa, ca, hmid, hb7, h63, hvab, hpb, hpo, hwb, hwo, hab, hao⟩ := hs
  have hwf := Buys.wf hx
  have hfree := free_to hi hwf k (by omega)
  have hpl := pay_len hfree.1
  have hl32 := (instE_zero hi).2.2.1
  have hkp : k < (payTo n bs k).length := by omega
  obtain ⟨gp, hAp, hgp⟩ : ∃ gp, Ap = some ⟨gp, 0, none⟩ ∧ W6.heap.size ≤ gp := by
    obtain ⟨g', c', he, h1, h2⟩ := World.ownsRow.form hpo (by omega)
    injection he with he1 _ _
    exact ⟨g', he1, h1⟩
  subst hAp
  have hgpl := (hpo.lt gp rfl).2
  -- where things lie, at w
  have hW : WonAt w lo g n v bs A cap := ⟨hwon.1, hmid.blk hwon.2.1 (by have := hwon.1; omega), by
    obtain ⟨h1, h2⟩ := hwon.2.2
    refine ⟨h1, h2.imp id ?_⟩
    rintro ⟨gg, cc, cur, e, hgg, hcur, hrest⟩
    exact ⟨gg, cc, cur, e, hgg, (hmid.2 gg (by omega) (Blk.lt hcur)).trans hcur, hrest⟩⟩
  have hX : Buys w (· < a + 1) v bs := hx.keep' hmid.1
  have h5w := hmid.blk h5 h5'
  have c5 : w.cell? ⟨b5, 0, none⟩ = some (.pointer (some ⟨g, 0, none⟩)) := h5w.cell 0
  have c7 : w.cell? ⟨b7, 0, none⟩ = some (.slice (some ⟨gp, 0, none⟩) bs.length cp) := hpb.cell 0
  have hb5l := h5w.lt
  have hb7l := hpb.lt
  obtain ⟨y, _, _, hy, _⟩ := payL_at hfree.1 hk
  have hstep : (payTo n bs k).set k (leastI n bs (payTo n bs k) k) = payTo n bs (k + 1) := by
    show _ = payStep n bs (payTo n bs k) k
    unfold payStep
    rw [if_pos hwin]
  have hne1 : gp ≠ b7 := fun e => own_ne_blk hpo hpb (by decide) (by rw [e]; rfl)
  have HS := Lib.hid hstep
  have HMID := Lib.hid hmid
  have HPB := Lib.hid hpb
  have HPO := Lib.hid hpo
  have HWB := Lib.hid hwb
  have HWO := Lib.hid hwo
  have HAB := Lib.hid hab
  have HAO := Lib.hid hao
  have HW := Lib.hid hW
  have HX := Lib.hid hX
  have HI := Lib.hid hi
  have HF := Lib.hid hfree
  have HWIN := Lib.hid hwin
  have HPL := Lib.hid hpl
  have e0 : (0 : Int) ≤ (k : Int) := by omega
  have e1 : (k : Int) < (bs.length : Int) := by omega
  have hwl := whoTo_len (bestC n bs) k
  have hszc : a + 3 ≤ w.heap.size := Nat.le_trans h63 hmid.1.size
  have hsz6 := hmid.1.size
  have hSP : Sl w (fun _ => True) (.slice (some ⟨gp, 0, none⟩) bs.length cp) (payTo n bs k).length 1 (ints (payTo n bs k)) := by rw [hpl]; exact (Sl.of_own hpo).any
  have HSP := Lib.hid hSP
  clear hmid hpb hpo hwb hwo hab hao hW hX h5w hwon hx h5 hfree hstep hi hwin hpl hSP
  go_enter Try.func96, Try.ntmps96
  go_wp2_with fail
  refine wp_region_F (Below w.heap.size w) [7] (by kernel_rfl) ((Below.refl _ _).drew) (fun hS => ?_)
  refine wpAnyF_take (i := 0) (oi := { dst := some 6, op := Go.Op.load 34 (Go.Operand.tmp 2), type := 34, pos := "core.go:77", after := #[], guard := none }) (v := ?_) rfl (by kernel_rfl) (by kernel_rfl) (by kernel_rfl) (by kernel_rfl) (fun _ _ _ h => h) (Or.inl ⟨by rfl, ?_⟩) hS ?_
  rotate_left
  · intro w' hSw; have q1 := (hSw.cell (p := ⟨b5, 0, none⟩) hb5l).trans c5; have q2 := (hSw.cell (p := ⟨b7, 0, none⟩) hb7l).trans c7; go_simp; try with_reducible rfl
  try simp only [Act.put, List.setIfInBounds_toArray, List.set_cons_zero, List.set_cons_succ]
  refine wpAnyF_take (i := 1) (oi := { dst := some 7, op := Go.Op.move (Go.Operand.tmp 0), type := 3, pos := "core.go:77", after := #[], guard := none }) (v := ?_) rfl (by kernel_rfl) (by kernel_rfl) (by kernel_rfl) (by kernel_rfl) (fun _ _ _ h => h) (Or.inl ⟨by rfl, ?_⟩) hS ?_
  rotate_left
  · intro w' hSw; have q1 := (hSw.cell (p := ⟨b5, 0, none⟩) hb5l).trans c5; have q2 := (hSw.cell (p := ⟨b7, 0, none⟩) hb7l).trans c7; go_simp; try with_reducible rfl
  try simp only [Act.put, List.setIfInBounds_toArray, List.set_cons_zero, List.set_cons_succ]
  refine wpAnyF_take (i := 2) (oi := { dst := some 8, op := Go.Op.load 153 (Go.Operand.tmp 1), type := 153, pos := "core.go:77", after := #[], guard := none }) (v := ?_) rfl (by kernel_rfl) (by kernel_rfl) (by kernel_rfl) (by kernel_rfl) (fun _ _ _ h => h) (Or.inl ⟨by rfl, ?_⟩) hS ?_
  rotate_left
  · intro w' hSw; have q1 := (hSw.cell (p := ⟨b5, 0, none⟩) hb5l).trans c5; have q2 := (hSw.cell (p := ⟨b7, 0, none⟩) hb7l).trans c7; go_simp; try with_reducible rfl
  try simp only [Act.put, List.setIfInBounds_toArray, List.set_cons_zero, List.set_cons_succ]
  refine wpAnyF_take (i := 3) (oi := { dst := some 9, op := Go.Op.move (Go.Operand.tmp 0), type := 3, pos := "core.go:77", after := #[], guard := none }) (v := ?_) rfl (by kernel_rfl) (by kernel_rfl) (by kernel_rfl) (by kernel_rfl) (fun _ _ _ h => h) (Or.inl ⟨by rfl, ?_⟩) hS ?_
  rotate_left
  · intro w' hSw; have q1 := (hSw.cell (p := ⟨b5, 0, none⟩) hb5l).trans c5; have q2 := (hSw.cell (p := ⟨b7, 0, none⟩) hb7l).trans c7; go_simp; try with_reducible rfl
  try simp only [Act.put, List.setIfInBounds_toArray, List.set_cons_zero, List.set_cons_succ]
  refine wpAnyF_take (i := 4) (oi := { dst := some 10, op := Go.Op.load 34 (Go.Operand.tmp 2), type := 34, pos := "core.go:77", after := #[], guard := none }) (v := ?_) rfl (by kernel_rfl) (by kernel_rfl) (by kernel_rfl) (by kernel_rfl) (fun _ _ _ h => h) (Or.inl ⟨by rfl, ?_⟩) hS ?_
  rotate_left
  · intro w' hSw; have q1 := (hSw.cell (p := ⟨b5, 0, none⟩) hb5l).trans c5; have q2 := (hSw.cell (p := ⟨b7, 0, none⟩) hb7l).trans c7; go_simp; try with_reducible rfl
  try simp only [Act.put, List.setIfInBounds_toArray, List.set_cons_zero, List.set_cons_succ]
  refine wpAnyF_ready (rs := [5]) (by kernel_rfl) (by simp) ?_
  refine AllReadyF.cons (o := { dst := some 11, op := Go.Op.call { callee := Go.Callee.value (Go.Operand.func 97), args := #[Go.Operand.tmp 8, Go.Operand.tmp 9, Go.Operand.tmp 10], argTypes := #[153, 3, 34] }, type := 2, pos := "core.go:77", after := #[{ on := 2, ground := Go.Ground.data }, { on := 3, ground := Go.Ground.data }, { on := 4, ground := Go.Ground.data }], guard := none }) rfl (by rfl) (fun K hK => ?_) ?_
  · go_simp
    refine (least_any n bs v lo g A cap (payTo n bs k) _ (fun _ => True) (· < a + 1) k hk _ (HW.out.grow (Below.refl _ _).drew) (HX.out.grow (Below.refl _ _).drew) (HSP.out.grow (Below.refl _ _).drew) HI.out HF.out.1).mono ?_
    rintro e w1 ⟨rfl, hb1⟩
    refine hK.out _ _ ?_ (fun hS => ?_)
    · exact (Below.refl w.heap.size w).drew.trans (hb1.mono (by simp))
    clear hK K
    try simp only [Act.put, List.setIfInBounds_toArray, List.set_cons_zero, List.set_cons_succ]
    have HB1 := Lib.hid ((Below.refl w.heap.size w).drew.trans (hb1.mono (B' := w.heap.size) (by simp)))
    clear hb1
    refine wpAnyF_take (i := 6) (oi := { dst := some 12, op := Go.Op.indexAddr 34 (Go.Operand.tmp 6) (Go.Operand.tmp 7), type := 0, pos := "core.go:77", after := #[{ on := 0, ground := Go.Ground.data }, { on := 1, ground := Go.Ground.data }, { on := 0, ground := Go.Ground.phase }, { on := 1, ground := Go.Ground.phase }, { on := 2, ground := Go.Ground.phase }, { on := 3, ground := Go.Ground.phase }, { on := 4, ground := Go.Ground.phase }, { on := 5, ground := Go.Ground.phase }], guard := none }) (v := ?_) rfl (by kernel_rfl) (by kernel_rfl) (by kernel_rfl) (by kernel_rfl) (fun _ _ _ h => h) (Or.inl ⟨by rfl, ?_⟩) hS ?_
    rotate_left
    · intro w' hSw; have q1 := (hSw.cell (p := ⟨b5, 0, none⟩) hb5l).trans c5; have q2 := (hSw.cell (p := ⟨b7, 0, none⟩) hb7l).trans c7; go_simp; try with_reducible rfl
    try simp only [Act.put, List.setIfInBounds_toArray, List.set_cons_zero, List.set_cons_succ]
    refine wpAnyF_ready (rs := [7]) (by kernel_rfl) (by simp) ?_
    refine AllReadyF.fin (o := { dst := none, op := Go.Op.store 2 (Go.Operand.tmp 12) (Go.Operand.tmp 11), type := 0, pos := "core.go:77", after := #[{ on := 6, ground := Go.Ground.data }, { on := 5, ground := Go.Ground.data }, { on := 5, ground := Go.Ground.chain }, { on := 0, ground := Go.Ground.phase }, { on := 1, ground := Go.Ground.phase }, { on := 2, ground := Go.Ground.phase }, { on := 3, ground := Go.Ground.phase }, { on := 4, ground := Go.Ground.phase }, { on := 5, ground := Go.Ground.phase }], guard := none }) rfl (by rfl) (fun K hK => ?_) ?_
    · have hO1 := own_grow HPO.out HB1.out
      have f1 : w1.frozen? ⟨gp, k, none⟩ = false := hO1.frozenAt k
      have f2 : w1.cell? ⟨gp, k, none⟩ = some (.int .i64 ((payTo n bs k)[k]'hkp)) := by rw [hO1.cellAt k (by omega)]; simp [ints, hkp]
      go_simp
      refine hK.out _ _ ?_
      clear hK K
      try simp only [Act.put, List.setIfInBounds_toArray, List.set_cons_zero, List.set_cons_succ]
      refine wpAnyF_done (by kernel_rfl) ?_ _
      obtain ⟨vs, hvs, hvo⟩ := HAO.out
      have hO1 := own_grow HPO.out HB1.out
      obtain ⟨hP2, hg2⟩ := hO1.stored k (.int .i64 (leastI n bs (payTo n bs k) k))
      have hset : (ints (payTo n bs k)).set k (.int .i64 (leastI n bs (payTo n bs k) k)) = ints (payTo n bs (k + 1)) := by rw [← HS.out]; simp [ints, List.map_set]
      rw [hset] at hP2
      obtain ⟨w2, hw2⟩ : ∃ w2, w2 = w1.setCell ⟨gp, k, none⟩ (.int .i64 (leastI n bs (payTo n bs k) k)) := ⟨_, rfl⟩
      rw [← hw2] at hP2 hg2 ⊢
      clear hw2 hO1 f1 f2 hset
      have hva : (Value.slice Aa (whoTo (bestC n bs) k).length ca).ownBlock ≠ some gp := own_ne HPO.out hvs (by decide) rfl
      have hvw : (Value.slice Aw (whoTo (bestC n bs) k).length cw).ownBlock ≠ some gp := own_ne HPO.out HWO.out (by decide) rfl
      have HM2 := Lib.hid ((HMID.out.trans_grow HB1.out (by omega)).grown hg2 (fun r e => by injection e with e; omega) (by have := HB1.out.size; omega))
      have HPB2 := Lib.hid ((HPB.out.grow HB1.out).grown hg2 (fun e => by injection e with e; omega))
      have HWB2 := Lib.hid ((HWB.out.grow HB1.out).grown hg2 (fun e => by injection e with e; omega))
      have HAB2 := Lib.hid ((HAB.out.grow HB1.out).grown hg2 (fun e => by injection e with e; omega))
      have HWO2 := Lib.hid (own_far (own_grow HWO.out HB1.out) hg2 (fun r e => by injection e with e; subst e; exact hvw))
      have HAO2 := Lib.hid ((HAO.out.grow HB1.out).grown hg2 (fun r e => by injection e with e; subst e; exact ⟨.inr (.inr (.inl rfl)), hva⟩))
      have HP2 := Lib.hid hP2
      have hs12 := HB1.out.size
      have hs22 := hg2.size
      have s0 : w2.cell? ⟨a + 2, 0, none⟩ = some (.slice Aw (whoTo (bestC n bs) k).length cw) := HWB2.out.cell 0
      clear hvs hvo hP2 hg2 hva hvw hS
      go_wp2_with (at_builtin; go_must (refine wpList_app _ rfl (.tmp 13) (.tmp 15) et_int rfl W6.heap.size (.slice Aw (whoTo (bestC n bs) k).length cw) _ _ rfl (own_alloc HWO2.out _) _ _ 1 _ rfl (Sl.new w2 #[.int .i64 (k : Int)] _ 1 1 (by unfold maxLen; omega) rfl) (by simp [Value.oneCell']) (by omega) (by unfold maxLen; omega) (by simp; omega) ?_); intro A3 c3 w3 hown3 hg3 hloc3; have hn3 : Blk w3 (a + 2) 33 #[.slice Aw (whoTo (bestC n bs) k).length cw] := (HWB2.out.alloc _).grown hg3 (fun e => by have := (HWO2.out.lt _ e.symm).1; omega); have k0 := hn3.cell 0; have k1 := hn3.frozen 0; have HN3 := Lib.hid hn3; have HO3 := Lib.hid hown3; have HG3 := Lib.hid hg3; have HL3 := Lib.hid hloc3; clear hn3 hown3 hg3 hloc3)
      have hvl4 : w3.heap.size = (w3.setCell ⟨a + 2, 0, none⟩ (.slice A3 ((whoTo (bestC n bs) k).length + 1) c3)).heap.size := by simp [World.setCell]
      have hs3 := HG3.out.size
      simp only [World.size_alloc] at hs3
      have hZ : Mid (a + 1) (a + 3) W6 (w3.setCell ⟨a + 2, 0, none⟩ (.slice A3 ((whoTo (bestC n bs) k).length + 1) c3)).drew ∧
          Blk (w3.setCell ⟨a + 2, 0, none⟩ (.slice A3 ((whoTo (bestC n bs) k).length + 1) c3)).drew b7 34 #[.slice (some ⟨gp, 0, none⟩) bs.length cp] ∧
          (w3.setCell ⟨a + 2, 0, none⟩ (.slice A3 ((whoTo (bestC n bs) k).length + 1) c3)).drew.ownsRow W6.heap.size 2 1 (.slice (some ⟨gp, 0, none⟩) bs.length cp) bs.length (ints (payTo n bs (k + 1))) ∧
          Blk (w3.setCell ⟨a + 2, 0, none⟩ (.slice A3 ((whoTo (bestC n bs) k).length + 1) c3)).drew (a + 2) 33 #[.slice A3 ((whoTo (bestC n bs) k).length + 1) c3] ∧
          (w3.setCell ⟨a + 2, 0, none⟩ (.slice A3 ((whoTo (bestC n bs) k).length + 1) c3)).drew.ownsRow W6.heap.size 3 1 (.slice A3 ((whoTo (bestC n bs) k).length + 1) c3) ((whoTo (bestC n bs) k).length + 1) (ints (whoTo (bestC n bs) k) ++ [.int .i64 (k : Int)]) ∧
          Blk (w3.setCell ⟨a + 2, 0, none⟩ (.slice A3 ((whoTo (bestC n bs) k).length + 1) c3)).drew (a + 1) 161 #[.slice Aa (whoTo (bestC n bs) k).length ca] ∧
          RowsI (w3.setCell ⟨a + 2, 0, none⟩ (.slice A3 ((whoTo (bestC n bs) k).length + 1) c3)).drew W6.heap.size (fun b => b = b7 ∨ (Value.slice (some ⟨gp, 0, none⟩) bs.length cp).ownBlock = some b ∨ (Value.slice A3 ((whoTo (bestC n bs) k).length + 1) c3).ownBlock = some b) (.slice Aa (whoTo (bestC n bs) k).length ca) (rowsTo n bs k) := by
        have hwc : ∀ r, (Value.slice Aw (whoTo (bestC n bs) k).length cw).ownBlock = some r → W6.heap.size ≤ r := fun r e => (HWO2.out.lt r e).1
        have hvs2 := HAO2.out
        obtain ⟨vs2, hvs2a, _⟩ := HAO2.out
        refine ⟨?_, ?_, ?_, ?_, ?_, ?_, ?_⟩
        · have h1 := ((HM2.out.trans_grow ((Below.refl _ _).alloc (Nat.le_refl _) _) (by omega)).grown HG3.out (fun r e => by have := hwc r e; omega) (by simp; omega)).set (p := ⟨a + 2, 0, none⟩) (by simp) (by simp) (.slice A3 ((whoTo (bestC n bs) k).length + 1) c3)
          exact ⟨h1.1.drew, h1.2⟩
        · exact (((HPB2.out.alloc _).grown HG3.out (fun e => own_ne_blk HWO2.out HPB2.out (by decide) e.symm)).far (p := ⟨a + 2, 0, none⟩) (by simp; omega) _).drew
        · have h1 := own_far (own_far (own_alloc HP2.out _) HG3.out (fun r e => own_ne HWO2.out HP2.out (by decide) e)) (grownBy_setCell w3 ⟨a + 2, 0, none⟩ (.slice A3 ((whoTo (bestC n bs) k).length + 1) c3)) (fun r e he => by have := (HP2.out.lt r he).1; simp at e; omega)
          exact h1
        · exact (HN3.out.set_ 0 _).drew
        · have h1 := own_far HO3.out (grownBy_setCell w3 ⟨a + 2, 0, none⟩ (.slice A3 ((whoTo (bestC n bs) k).length + 1) c3)) (fun r e he => by have := (HO3.out.lt r he).1; simp at e; omega)
          exact h1
        · exact (((HAB2.out.alloc _).grown HG3.out (fun e => by have := hwc _ e.symm; omega)).far (p := ⟨a + 2, 0, none⟩) (by simp) _).drew
        · have h1 : RowsI (w2.alloc (.cells #[.int .i64 (k : Int)] 3)) W6.heap.size (fun b => (b = b7 ∨ (Value.slice (some ⟨gp, 0, none⟩) bs.length cp).ownBlock = some b ∨ (Value.slice A3 ((whoTo (bestC n bs) k).length + 1) c3).ownBlock = some b) ∨ (Value.slice Aw (whoTo (bestC n bs) k).length cw).ownBlock = some b) (.slice Aa (whoTo (bestC n bs) k).length ca) (rowsTo n bs k) := by
            refine (hvs2.grow ((Below.refl _ _).alloc (Nat.le_refl _) _)).aside fun b hb h => ?_
            rcases h with (h | h | h) | h
            · exact .inl h
            · exact .inr (.inl h)
            · rcases HL3.out with e | e
              · exact .inr (.inr (e.symm.trans h))
              · rw [e] at h
                injection h with h
                omega
            · exact .inr (.inr h)
          have h2 := h1.grown HG3.out (fun r e => ⟨.inr (.inr e), own_ne HWO2.out hvs2a (by decide) e⟩)
          have h3 := h2.grown (grownBy_setCell w3 ⟨a + 2, 0, none⟩ (.slice A3 ((whoTo (bestC n bs) k).length + 1) c3)) (fun r e => by
            have e' : a + 2 = r := by simpa using e
            refine ⟨.inl (by omega), fun he => ?_⟩
            have := (hvs2a.lt r he).1
            omega)
          exact h3.aside fun b _ h => .inl h
      generalize hV0 : (w3.setCell ⟨a + 2, 0, none⟩ (.slice A3 ((whoTo (bestC n bs) k).length + 1) c3)).drew = V0 at hZ
      obtain ⟨zm, zpb, zp, zwb, zw, zab, zr⟩ := hZ
      have z0 : V0.cell? ⟨a + 1, 0, none⟩ = some (.slice Aa (whoTo (bestC n bs) k).length ca) := zab.cell 0
      have z1 : V0.cell? ⟨b7, 0, none⟩ = some (.slice (some ⟨gp, 0, none⟩) bs.length cp) := zpb.cell 0
      obtain ⟨vs, hvs, hvo⟩ := zr
      rw [rowsTo_len] at hvs
      have hvac : ∀ r, (Value.slice Aa (whoTo (bestC n bs) k).length ca).ownBlock = some r → W6.heap.size ≤ r ∧ r < V0.heap.size := fun r e => hvs.lt r e
      have hvwl : ∀ r, (Value.slice A3 ((whoTo (bestC n bs) k).length + 1) c3).ownBlock = some r → r < V0.heap.size := fun r e => (zw.lt r e).2
      have hgpl2 := (zp.lt gp rfl).2
      have zp_lt : ∀ r, (Value.slice (some ⟨gp, 0, none⟩) bs.length cp).ownBlock = some r → r < V0.heap.size := fun r e => (zp.lt r e).2
      have hb7l2 := zpb.lt
      have hszV := zm.1.size
      have ZM := Lib.hid zm
      have ZPB := Lib.hid zpb
      have ZP := Lib.hid zp
      have ZWB := Lib.hid zwb
      have ZW := Lib.hid zw
      have ZAB := Lib.hid zab
      have HVS := Lib.hid hvs
      have HVO := Lib.hid hvo
      clear zm zpb zp zwb zw zab hvs hvo hvl4
      refine wp_region_F (fun V => V.cell? ⟨a + 1, 0, none⟩ = some (.slice Aa (whoTo (bestC n bs) k).length ca) ∧ V.cell? ⟨b7, 0, none⟩ = some (.slice (some ⟨gp, 0, none⟩) bs.length cp)) [5] (by kernel_rfl) (by rw [hV0]; exact ⟨z0, z1⟩) (fun hS => ?_)
      rw [hV0] at hS ⊢
      refine wpAnyF_take (i := 0) (oi := { dst := some 17, op := Go.Op.load 161 (Go.Operand.tmp 4), type := 161, pos := "core.go:79", after := #[], guard := none }) (v := ?_) rfl (by kernel_rfl) (by kernel_rfl) (by kernel_rfl) (by kernel_rfl) (fun _ _ _ h => h) (Or.inl ⟨by rfl, ?_⟩) hS ?_
      rotate_left
      · intro w' hSw; obtain ⟨q1, q2⟩ := hSw; go_simp; try with_reducible rfl
      try simp only [Act.put, List.setIfInBounds_toArray, List.set_cons_zero, List.set_cons_succ]
      refine wpAnyF_take (i := 1) (oi := { dst := some 18, op := Go.Op.load 34 (Go.Operand.tmp 2), type := 34, pos := "core.go:79", after := #[], guard := none }) (v := ?_) rfl (by kernel_rfl) (by kernel_rfl) (by kernel_rfl) (by kernel_rfl) (fun _ _ _ h => h) (Or.inl ⟨by rfl, ?_⟩) hS ?_
      rotate_left
      · intro w' hSw; obtain ⟨q1, q2⟩ := hSw; go_simp; try with_reducible rfl
      try simp only [Act.put, List.setIfInBounds_toArray, List.set_cons_zero, List.set_cons_succ]
      refine wpAnyF_ready (rs := [2]) (by kernel_rfl) (by simp) ?_
      refine AllReadyF.cons (o := { dst := some 19, op := Go.Op.call { callee := Go.Callee.builtin Go.Builtin.append, args := #[Go.Operand.const (Go.Value.slice none 0 0), Go.Operand.tmp 18], argTypes := #[34, 34] }, type := 34, pos := "core.go:79", after := #[{ on := 1, ground := Go.Ground.data }], guard := none }) rfl (by rfl) (fun K hK => ?_) ?_
      · refine step_app V0 rfl (.const (.slice none 0 0)) (.tmp 18) et_i64 rfl W6.heap.size (.slice none 0 0) 0 [] rfl (World.ownsRow_nil _ _ _ _) (fun _ => True) (.slice (some ⟨gp, 0, none⟩) bs.length cp) bs.length (ints (payTo n bs (k + 1))) rfl ((Sl.of_own ZP.out).any) (by simp [ints, Value.oneCell']) (by omega) (by unfold maxLen; omega) (by omega) ?_
        intro A5 c5 w5 hown5 hg5 hloc5
        rw [Nat.zero_add] at hown5 hloc5 ⊢
        refine hK.out _ _ ?_ (fun hS => ?_)
        · exact ⟨hg5.cell z0 (fun e => by cases e), hg5.cell z1 (fun e => by cases e)⟩
        clear hK K
        try simp only [Act.put, List.setIfInBounds_toArray, List.set_cons_zero, List.set_cons_succ]
        obtain ⟨g5, hA5⟩ : ∃ g5, A5 = some ⟨g5, 0, none⟩ := by
          obtain ⟨g5, c5', hform, _, _⟩ := World.ownsRow.form hown5 (by omega)
          injection hform with h1 _ _
          exact ⟨g5, h1⟩
        subst hA5
        have hg5e : g5 = V0.heap.size := by
          rcases hloc5 with e | e
          · cases e
          · injection e
        subst hg5e
        rw [List.nil_append] at hown5
        have HG5 := Lib.hid hg5
        have HO5 := Lib.hid hown5
        have hs5 := hg5.size
        have hlt5 := (hown5.lt _ rfl).2
        clear hg5 hown5 hloc5
        refine wpAnyF_ready (rs := [3]) (by kernel_rfl) (by simp) ?_
        refine AllReadyF.cons (o := { dst := some 20, op := Go.Op.buildSlice 161 1 #[(0, Go.Operand.tmp 19)], type := 161, pos := "core.go:79", after := #[{ on := 2, ground := Go.Ground.data }], guard := none }) rfl (by rfl) (fun K hK => ?_) ?_
        · go_simp
          refine hK.out _ _ ?_ (fun hS => ?_)
          · exact ⟨cellAlloc hS.1 _, cellAlloc hS.2 _⟩
          clear hK K
          try simp only [Act.put, List.setIfInBounds_toArray, List.set_cons_zero, List.set_cons_succ]
          refine wpAnyF_ready (rs := [4]) (by kernel_rfl) (by simp) ?_
          refine AllReadyF.cons (o := { dst := some 21, op := Go.Op.call { callee := Go.Callee.builtin Go.Builtin.append, args := #[Go.Operand.tmp 17, Go.Operand.tmp 20], argTypes := #[161, 161] }, type := 161, pos := "core.go:79", after := #[{ on := 0, ground := Go.Ground.data }, { on := 3, ground := Go.Ground.data }, { on := 2, ground := Go.Ground.chain }], guard := none }) rfl (by rfl) (fun K hK => ?_) ?_
          · refine step_app (w5.alloc (.cells #[.slice (some ⟨V0.heap.size, 0, none⟩) bs.length c5] 34)) rfl (.tmp 17) (.tmp 20) et_rows rfl W6.heap.size (.slice Aa (whoTo (bestC n bs) k).length ca) (whoTo (bestC n bs) k).length vs rfl (own_alloc (own_far HVS.out HG5.out (fun r e => by cases e)) _) (fun _ => True) (.slice (some ⟨w5.heap.size, 0, none⟩) 1 1) 1 [.slice (some ⟨V0.heap.size, 0, none⟩) bs.length c5] rfl (Sl.blk (sz := 1) (cs := #[.slice (some ⟨V0.heap.size, 0, none⟩) bs.length c5]) (Blk.new w5 34 _) (Nat.le_refl 1) (by unfold maxLen; omega) rfl) (by simp [Value.oneCell']) (by omega) (by unfold maxLen; omega) (by simp; omega) ?_
            intro A6 c6 w6 hown6 hg6 hloc6
            refine hK.out _ _ ?_ (fun hS => ?_)
            · exact ⟨hg6.cell hS.1 (fun e => by have := (hvac _ e.symm).1; simp at this; omega), hg6.cell hS.2 (fun e => hvab e.symm)⟩
            clear hK K
            try simp only [Act.put, List.setIfInBounds_toArray, List.set_cons_zero, List.set_cons_succ]
            have HG6 := Lib.hid hg6
            have HO6 := Lib.hid hown6
            have HL6 := Lib.hid hloc6
            have HA6 := Lib.hid (show Blk w6 (a + 1) 161 #[.slice Aa (whoTo (bestC n bs) k).length ca] from ((ZAB.out.grown HG5.out (fun e => by cases e)).alloc _).grown hg6 (fun e => by have := (hvac _ e.symm).1; omega))
            clear hg6 hown6 hloc6
            refine wpAnyF_ready (rs := [5]) (by kernel_rfl) (by simp) ?_
            refine AllReadyF.fin (o := { dst := none, op := Go.Op.store 161 (Go.Operand.tmp 4) (Go.Operand.tmp 21), type := 0, pos := "core.go:79", after := #[{ on := 4, ground := Go.Ground.data }, { on := 4, ground := Go.Ground.chain }, { on := 0, ground := Go.Ground.phase }, { on := 1, ground := Go.Ground.phase }, { on := 2, ground := Go.Ground.phase }, { on := 3, ground := Go.Ground.phase }, { on := 4, ground := Go.Ground.phase }], guard := none }) rfl (by rfl) (fun K hK => ?_) ?_
            · have f1 := HA6.out.frozen 0
              have f2 := HA6.out.cell 0
              go_simp
              refine hK.out _ _ ?_
              clear hK K
              try simp only [Act.put, List.setIfInBounds_toArray, List.set_cons_zero, List.set_cons_succ]
              refine wpAnyF_done (by kernel_rfl) ?_ _
              go_wp2_with fail
              go_end0
              refine ⟨⟨_, rfl⟩, ?_⟩
              have hs5L : (w5.alloc (.cells #[.slice (some ⟨V0.heap.size, 0, none⟩) bs.length c5] 34)).heap.size = w5.heap.size + 1 := by simp
              have hs6 := HG6.out.size
              rw [hs5L] at hs6
              have hmw : whoTo (bestC n bs) (k + 1) = whoTo (bestC n bs) k ++ [(k : Int)] := whoTo_yes HWIN.out
              have hml : (whoTo (bestC n bs) (k + 1)).length = (whoTo (bestC n bs) k).length + 1 := by rw [hmw]; simp
              have hrw : rowsTo n bs (k + 1) = rowsTo n bs k ++ [payTo n bs (k + 1)] := by
                show (if winB (bestC n bs) k = true then _ else _) = _
                rw [if_pos HWIN.out]
              have hp5 := own_alloc (own_far ZP.out HG5.out (fun r e => by cases e)) (.cells #[.slice (some ⟨V0.heap.size, 0, none⟩) bs.length c5] 34)
              have hw5 := own_alloc (own_far ZW.out HG5.out (fun r e => by cases e)) (.cells #[.slice (some ⟨V0.heap.size, 0, none⟩) bs.length c5] 34)
              have hv5 := own_alloc (own_far HVS.out HG5.out (fun r e => by cases e)) (.cells #[.slice (some ⟨V0.heap.size, 0, none⟩) bs.length c5] 34)
              have hpl1 : (payTo n bs (k + 1)).length = bs.length := payTo_len HI.out (Buys.wf HX.out) (by omega)
              refine ⟨some ⟨gp, 0, none⟩, cp, A3, c3, A6, c6, ?_, hb7, h63, ?_, ?_, ?_, ?_, ?_, ?_, ?_⟩
              · exact (((ZM.out.grown HG5.out (fun r e => by cases e) (by omega)).trans_grow ((Below.refl _ _).alloc (Nat.le_refl _) _) (by omega)).grown HG6.out (fun r e => by have := (hvac r e).1; omega) (by omega)).set (p := ⟨a + 1, 0, none⟩) (by simp) (by simp) _
              · rw [hml]
                rcases HL6.out with e | e
                · rw [e]; exact hvab
                · rw [e, hs5L]; intro e'; injection e' with e'; omega
              · exact (((ZPB.out.grown HG5.out (fun e => by cases e)).alloc _).grown HG6.out (fun e => hvab e.symm)).far (p := ⟨a + 1, 0, none⟩) (by simp; omega) _
              · exact own_far (own_far hp5 HG6.out (fun r e => own_ne hv5 hp5 (by decide) e)) (grownBy_setCell w6 ⟨a + 1, 0, none⟩ _) (fun r e he => by have := (hp5.lt r he).1; simp at e; omega)
              · rw [hml]
                exact (((ZWB.out.grown HG5.out (fun e => by cases e)).alloc _).grown HG6.out (fun e => by have := (hvac _ e.symm).1; omega)).far (p := ⟨a + 1, 0, none⟩) (by simp) _
              · rw [hml, hmw]
                have h1 := own_far (own_far hw5 HG6.out (fun r e => own_ne hv5 hw5 (by decide) e)) (grownBy_setCell w6 ⟨a + 1, 0, none⟩ (.slice A6 ((whoTo (bestC n bs) k).length + 1) c6)) (fun r e he => by have := (hw5.lt r he).1; simp at e; omega)
                simpa [ints] using h1
              · rw [hml]
                exact HA6.out.set_ 0 _
              · rw [hml, hrw]
                have hsn := RowsI.snoc (not := fun b => b = b7 ∨ (Value.slice (some ⟨gp, 0, none⟩) bs.length cp).ownBlock = some b ∨ (Value.slice A3 ((whoTo (bestC n bs) k).length + 1) c3).ownBlock = some b) (l := payTo n bs (k + 1)) (rowsTo_len n bs k) hv5
                  (fun j l hj => let ⟨u, hu, hl⟩ := HVO.out j l hj; ⟨u, hu, (hl.grown HG5.out (fun b _ _ e => by cases e)).alloc _⟩)
                  (by
                    rw [hpl1]
                    refine ((Sl.of_own HO5.out).alloc _).mono fun b _ hb => ?_
                    have hbe : b = V0.heap.size := by injection hb with hb; exact hb.symm
                    subst hbe
                    refine ⟨by omega, fun h => ?_, fun e => by have := (hvac _ e).2; omega⟩
                    rcases h with h | h | h
                    · omega
                    · have := (zp_lt _ h); omega
                    · have := hvwl _ h; omega)
                  HO6.out HG6.out HL6.out
                exact hsn.grown (grownBy_setCell w6 ⟨a + 1, 0, none⟩ _) (fun r e => by
                  have e' : a + 1 = r := by simpa using e
                  refine ⟨.inl (by omega), fun he => ?_⟩
                  have := (HO6.out.lt r he).1
                  omega)
            exact AllReadyF.nil
          exact AllReadyF.nil
        exact AllReadyF.nil
      exact AllReadyF.nil
    exact AllReadyF.nil
  exact AllReadyF.nil
end Go.Proofs.Ytcigobiolbojhaa.Vb

/- core.Steps. -/
namespace Go.Proofs.Ytcigobiolbojhaa.Vb
open Go.RowKit

theorem Mid.won {a b : Nat} {w w' : World} {lo g : Nat} {n : Int} {v : Value} {bs : List (List Off)} {A : Option Addr} {cap : Nat} (hm : Mid a b w w') (h : WonAt w lo g n v bs A cap) (hb : b ≤ lo) : WonAt w' lo g n v bs A cap :=
  ⟨h.1, hm.blk h.2.1 (Nat.le_trans hb h.1), by
    obtain ⟨h1, h2⟩ := h.2.2
    refine ⟨h1, h2.imp id ?_⟩
    rintro ⟨gg, cc, cur, e, hgg, hcur, hrest⟩
    exact ⟨gg, cc, cur, e, hgg, (hm.2 gg (by omega) (Blk.lt hcur)).trans hcur, hrest⟩⟩
theorem StepsAt.skip {w W6 : World} {a b7 : Nat} {n : Int} {bs : List (List Off)} {k : Nat} (h : StepsAt w W6 a b7 n bs k) (hw : winB (bestC n bs) k = false) : StepsAt w W6 a b7 n bs (k + 1) := by
  unfold StepsAt at h ⊢
  have h1 : payTo n bs (k + 1) = payTo n bs k := by
    show payStep n bs (payTo n bs k) k = _
    unfold payStep
    rw [if_neg (by rw [hw]; simp)]
  have h2 : rowsTo n bs (k + 1) = rowsTo n bs k := by
    show (if winB (bestC n bs) k = true then _ else _) = _
    rw [if_neg (by rw [hw]; simp)]
  rw [whoTo_no hw, h1, h2]
  exact h

def whoL (n : Int) (bs : List (List Off)) : List Int := if instE n bs = 0 then whoTo (bestC n bs) bs.length else []
def rowsL (n : Int) (bs : List (List Off)) : List (List Int) := if instE n bs = 0 then rowsTo n bs bs.length else []
theorem rowsL_len (n : Int) (bs : List (List Off)) : (rowsL n bs).length = (whoL n bs).length := by
  unfold rowsL whoL
  split
  · exact rowsTo_len _ _ _
  · rfl
/-- what Steps' iterator goes over: who at b4, all at b3 -/
def Shared (w : World) (lo b4 b3 : Nat) (who : List Int) (rows : List (List Int)) : Prop :=
  ∃ (Aw : Option Addr) (cw : Nat) (Aa : Option Addr) (ca : Nat) (vs : List Value), lo ≤ b4 ∧ lo ≤ b3 ∧ Blk w b4 33 #[.slice Aw who.length cw] ∧ Sl w (lo ≤ ·) (.slice Aw who.length cw) who.length 1 (ints who) ∧
    Blk w b3 161 #[.slice Aa who.length ca] ∧ Sl w (lo ≤ ·) (.slice Aa who.length ca) who.length 1 vs ∧ ∀ (j : Nat) (l : List Int), rows[j]? = some l → ∃ u, vs[j]? = some u ∧ Sl w (lo ≤ ·) u l.length 1 (ints l)
theorem Shared.grow {w w' : World} {lo b4 b3 : Nat} {who : List Int} {rows : List (List Int)} (h : Shared w lo b4 b3 who rows) (hb : Below w.heap.size w w') : Shared w' lo b4 b3 who rows := by
  obtain ⟨Aw, cw, Aa, ca, vs, h1, h2, h3, h4, h5, h6, h7⟩ := h
  exact ⟨Aw, cw, Aa, ca, vs, h1, h2, h3.grow hb, h4.grow hb, h5.grow hb, h6.grow hb, fun j l hj => let ⟨u, hu, hl⟩ := h7 j l hj; ⟨u, hu, hl.grow hb⟩⟩
theorem StepsAt.shared {w W6 : World} {a b7 : Nat} {n : Int} {bs : List (List Off)} {k : Nat} (h : StepsAt w W6 a b7 n bs k) : Shared w a (a + 2) (a + 1) (whoTo (bestC n bs) k) (rowsTo n bs k) := by
  obtain ⟨Ap, cp, Aw, cw, Aa, ca, hmid, hb7, h63, hvab, hpb, hpo, hwb, hwo, hab, vs, hvs, hvo⟩ := h
  rw [rowsTo_len] at hvs
  exact ⟨Aw, cw, Aa, ca, vs, by omega, by omega, hwb, (Sl.own_from hwo).mono (fun b _ hb => by omega), hab, (Sl.own_from hvs).mono (fun b _ hb => by omega), fun j l hj => let ⟨u, hu, hl⟩ := hvo j l hj; ⟨u, hu, hl.mono fun b _ hb => by have := hb.1; omega⟩⟩

set_option maxRecDepth 100000 in
set_option maxHeartbeats 3200000 in
theorem coreSteps_ok (n : Int) (bs : List (List Off)) (v : Value) (R : Nat → Prop) (w : World) (hl : Buys w R v bs) (hi : instE n bs = 0) :
    Calls Try.prog 42 #[.agg #[.int .i64 n, v]] w fun e w' => ∃ b4 b3, e = .returned (.func (.func 98) #[] #[.pointer (some ⟨b4, 0, none⟩), .pointer (some ⟨b3, 0, none⟩)]) ∧ Shared w' w.heap.size b4 b3 (whoL n bs) (rowsL n bs) ∧ Below w.heap.size w w' := by
  obtain ⟨vs, ⟨_, A, cap, rfl, _⟩, _⟩ := id hl
  have HB := Lib.hid hl
  have HI := Lib.hid hi
  have hwf := Buys.wf hl
  have hl32 := (instE_zero hi).2.2.1
  have hwl : whoL n bs = whoTo (bestC n bs) bs.length := by unfold whoL; rw [if_pos hi]
  have hrl : rowsL n bs = rowsTo n bs bs.length := by unfold rowsL; rw [if_pos hi]
  rw [hwl, hrl]
  clear hl hi hwl hrl hwf
  obtain ⟨W0, hW0⟩ : ∃ W, W = (((w.alloc (.cells #[.int .i64 n, .slice A bs.length cap] 24)).alloc (.cells #[.slice none 0 0] 161)).alloc (.cells #[.slice none 0 0] 33)) := ⟨_, rfl⟩
  have HX0 := Lib.hid (show Blk W0 w.heap.size 24 #[.int .i64 n, .slice A bs.length cap] from by rw [hW0]; exact ((Blk.new w _ _).alloc _).alloc _)
  have HA0 := Lib.hid (show Blk W0 (w.heap.size + 1) 161 #[.slice none 0 0] from by rw [hW0]; exact (Blk.new' _ _ (by simp)).alloc _)
  have HW0 := Lib.hid (show Blk W0 (w.heap.size + 2) 33 #[.slice none 0 0] from by rw [hW0]; exact Blk.new' _ _ (by simp))
  have HB0 := Lib.hid (show Below w.heap.size w W0 from by rw [hW0]; exact (((Below.refl _ _).alloc (Nat.le_refl _) _).alloc (by simp) _).alloc (by simp; omega) _)
  have hs0 : W0.heap.size = w.heap.size + 3 := by rw [hW0]; simp
  go_enter Try.func42, Try.ntmps42
  go_wp2_with fail
  rw [← hW0]
  clear hW0
  refine (of_ok n bs _ R _ (HB.out.grow HB0.out) HI.out).mono ?_
  rintro e w1 ⟨g, AB, cB, rfl, hwon, hb1⟩
  have HW1 := Lib.hid hwon
  have HB1 := Lib.hid hb1
  have hs1 := hb1.size
  clear hb1 hwon
  go_wp2_with fail
  obtain ⟨W6, hW6⟩ : ∃ W, W = w1.alloc (.cells #[.pointer (some ⟨g, 0, none⟩)] 153) := ⟨_, rfl⟩
  have H5 := Lib.hid (show Blk W6 w1.heap.size 153 #[.pointer (some ⟨g, 0, none⟩)] from by rw [hW6]; exact Blk.new w1 _ _)
  have HB6 := Lib.hid (show Below W0.heap.size W0 W6 from by rw [hW6]; exact HB1.out.alloc (by omega) _)
  have HW6 := Lib.hid (show WonAt W6 W0.heap.size g n (.slice A bs.length cap) bs AB cB from by rw [hW6]; exact HW1.out.grow ((Below.refl _ _).alloc (Nat.le_refl _) _))
  have hs6 : W6.heap.size = w1.heap.size + 1 := by rw [hW6]; simp
  have hbx : Buys W6 (· < w.heap.size + 1) (.slice A bs.length cap) bs := (Buys.keep' (HB.out.mono (R' := (· < w.heap.size)) fun _ hlt _ => hlt) (HB0.out.trans (HB6.out.mono (by omega)))).mono fun b _ hb => Nat.lt_succ_of_lt hb
  have HX6 := Lib.hid hbx
  have HXX := Lib.hid (HX0.out.grow HB6.out)
  have HA6 := Lib.hid (HA0.out.grow HB6.out)
  have HWW := Lib.hid (HW0.out.grow HB6.out)
  have c5 : W6.cell? ⟨w1.heap.size, 0, none⟩ = some (.pointer (some ⟨g, 0, none⟩)) := H5.out.cell 0
  have cb := HW6.out.cb
  rw [← hW6]
  clear hW6 hbx
  go_step3
  go_wp2_with (at_builtin; go_must (refine wpList_app _ rfl (.const (.slice none 0 0)) (.tmp 20) et_i64 rfl W6.heap.size (.slice none 0 0) 0 [] rfl (World.ownsRow_nil _ _ _ _) _ _ bs.length (ints (bidsC n bs)) rfl HW6.out.sl (by simp [ints, Value.oneCell']) (by omega) (by unfold maxLen; omega) (by omega) ?_); intro A7 c7 w7 hown7 hg7 hloc7; rw [Nat.zero_add] at hown7 hloc7 ⊢; rw [List.nil_append] at hown7; have HO7 := Lib.hid hown7; have HG7 := Lib.hid hg7; clear hown7 hg7 hloc7)
  have hs7 := HG7.out.size
  have hst0 : StepsAt (w7.alloc (.cells #[.slice A7 bs.length c7] 34)) W6 w.heap.size w7.heap.size n bs 0 := by
    refine ⟨A7, c7, none, 0, none, 0, ((Mid.refl _ _ _).grown HG7.out (fun r e => by cases e) (by omega)).trans_grow ((Below.refl _ _).alloc (Nat.le_refl _) _) (by omega), by omega, by omega, (fun e => by cases e), Blk.new w7 _ _, own_alloc HO7.out _, ?_, World.ownsRow_nil _ _ _ _, ?_, ?_⟩
    · exact (HWW.out.grown HG7.out (fun e => by cases e)).alloc _
    · exact (HA6.out.grown HG7.out (fun e => by cases e)).alloc _
    · exact ⟨[], World.ownsRow_nil _ _ _ _, fun j l hj => by simp [rowsTo] at hj⟩
  have hxx : (w7.alloc (.cells #[.slice A7 bs.length c7] 34)).cell? ⟨w.heap.size, 1, none⟩ = some (.slice A bs.length cap) := ((HXX.out.grown HG7.out (fun e => by cases e)).alloc _).cell 1
  obtain ⟨W8, hW8⟩ : ∃ W, W = w7.alloc (.cells #[.slice A7 bs.length c7] 34) := ⟨_, rfl⟩
  rw [← hW8] at hst0 hxx ⊢
  have HST := Lib.hid hst0
  clear hW8 hst0
  go_step3
  go_wp2_with fail
  go_loopw [26] (fun i wr => ∃ k : Nat, k ≤ bs.length ∧ i = .int .i64 k ∧ StepsAt wr W6 w.heap.size w7.heap.size n bs k) (fun i _ => bs.length - (intOf i).toNat)
  case atStart => exact ⟨0, Nat.zero_le _, rfl, HST.out⟩
  case round =>
    obtain ⟨k, hk, rfl, hst⟩ := hrel
    have hmid : Mid (w.heap.size + 1) (w.heap.size + 3) W6 wr := by obtain ⟨_, _, _, _, _, _, hm, _⟩ := hst; exact hm
    have HSR := Lib.hid hst
    have d5 : wr.cell? ⟨w1.heap.size, 0, none⟩ = some (.pointer (some ⟨g, 0, none⟩)) := (hmid.blk H5.out (by omega)).cell 0
    have hww := hmid.won HW6.out (by omega)
    have HMD := Lib.hid hmid
    clear hst hmid
    by_cases hlt : k < bs.length
    · have hk32 : k < 32 := by omega
      have dw := hww.cw hk32
      have e0 : (0 : Int) ≤ (k : Int) := by omega
      have e1 : (k : Int) < 32 := by omega
      clear hww
      cases hwin : winB (bestC n bs) k with
      | true =>
        rw [hwin] at dw
        have HWIN := Lib.hid hwin
        clear hwin
        go_wp2_with (go_at_call 96; go_must (refine (steps1_any n bs (.slice A bs.length cap) w.heap.size w1.heap.size w7.heap.size g W0.heap.size AB cB k hlt HWIN.out HI.out wr W6 HSR.out HX6.out H5.out (by omega) HW6.out (by omega)).mono ?_); rintro e w9 ⟨⟨r9, rfl⟩, hst9⟩; have HS9 := Lib.hid hst9; clear hst9)
        go_roundw
        case rel => exact ⟨k + 1, by omega, by go_num, HS9.out⟩
        case measure => simp [intOf]; omega
      | false =>
        rw [hwin] at dw
        have HWIN := Lib.hid hwin
        clear hwin
        go_wp2_with fail
        go_roundw
        case rel => exact ⟨k + 1, by omega, by go_num, HSR.out.skip HWIN.out⟩
        case measure => simp [intOf]; omega
    · obtain rfl : k = bs.length := by omega
      clear hww
      go_wp2_with fail
      rw [Exit.noGoto_normal]
      go_wp2_with fail
      go_ret
      exact ⟨_, _, rfl, HSR.out.shared, HB0.out.trans ((HB6.out.mono (by omega)).trans (HMD.out.1.mono (by omega)))⟩
end Go.Proofs.Ytcigobiolbojhaa.Vb

/- offers.Worth, truth.Gain; the reference's. -/
namespace Go.Proofs.Ytcigobiolbojhaa.Vb
open Go.RowKit

def wstep (g : Nat) (i : Nat) (o : Off) (a : Int × Int) : Int × Int := if decide (a.1 < o.c) && (andNot o.g g == 0) then (o.c, (i : Int)) else a
/-- what the first k offers are worth for g, and which -/
def worthK (g : Nat) (l : List Off) : Nat → Int × Int
  | 0 => (0, -1)
  | k + 1 => match l[k]? with | some o => wstep g k o (worthK g l k) | none => worthK g l k
theorem worthK_succ {g : Nat} {l : List Off} {k : Nat} {o : Off} (h : l[k]? = some o) : worthK g l (k + 1) = wstep g k o (worthK g l k) := by simp [worthK, h]
def worthV (l : List Off) (g : Nat) : Int := (worthK g l l.length).1

set_option maxRecDepth 100000 in
set_option maxHeartbeats 1600000 in
theorem worth_any (l : List Off) (g : Nat) (hg : g < 4294967296) (v : Value) (R : Nat → Prop) (w : World) (hl : Offs w R v l) :
    Calls Try.prog 108 #[v, .int .u32 g] w fun e w' => e = .returned (.tuple #[.int .i64 (worthV l g), .int .i64 (worthK g l l.length).2]) ∧ Below w.heap.size w w' := by
  have HL := Lib.hid hl
  obtain ⟨⟨_, A, cap, rfl, hncap, hcap, _⟩, hwf⟩ := hl
  unfold maxLen at hcap
  have HWF := Lib.hid hwf
  clear hwf
  unfold worthV
  go_enter Try.func108, Try.ntmps108
  go_wp2
  go_loopw [6, 7, 12] (fun b a i wr => ∃ k : Nat, k ≤ l.length ∧ i = .int .i64 k ∧ b = .int .i64 (worthK g l k).1 ∧ a = .int .i64 (worthK g l k).2 ∧ Below w.heap.size w wr) (fun _ _ i _ => l.length - (intOf i).toNat)
  case atStart => exact ⟨0, Nat.zero_le _, rfl, rfl, rfl, Below.refl _ _⟩
  case round =>
    obtain ⟨k, hk, rfl, rfl, rfl, hb⟩ := hrel
    by_cases hlt : k < l.length
    · obtain ⟨o, ho⟩ : ∃ o, l[k]? = some o := ⟨_, List.getElem?_eq_getElem hlt⟩
      obtain ⟨bq, off, rfl, hbq, q0, q1⟩ := (HL.out.grow hb).at_ ho
      have hwo := HWF.out o (List.mem_of_getElem? ho)
      unfold Off.wf at hwo
      have HS := Lib.hid (worthK_succ (g := g) ho)
      have HB := Lib.hid hb
      obtain ⟨p, hp⟩ : ∃ p, p = worthK g l k := ⟨_, rfl⟩
      rw [← hp]
      have HP := Lib.hid hp
      obtain ⟨pb, pa⟩ := p
      simp only
      clear hb ho hp
      obtain ⟨og, oc⟩ := o
      simp only at *
      by_cases hgt : pb < oc
      · cases hin : (andNot og g == 0) with
        | true =>
          have HIN := Lib.hid hin
          clear hin
          go_wp2_with (go_at_call 135; refine (within_any og g hwo.1 hg _).mono ?_; rintro e w1 ⟨rfl, rfl⟩; rw [HIN.out])
          go_roundw
          case rel =>
            have e : worthK g l (k + 1) = (oc, (k : Int)) := by rw [HS.out, ← HP.out]; simp [wstep, hgt, HIN.out]
            exact ⟨k + 1, by omega, by go_num, by rw [e], by rw [e], HB.out.alloc HB.out.size _⟩
          case measure => simp [intOf]; omega
        | false =>
          have HIN := Lib.hid hin
          clear hin
          go_wp2_with (go_at_call 135; refine (within_any og g hwo.1 hg _).mono ?_; rintro e w1 ⟨rfl, rfl⟩; rw [HIN.out])
          go_roundw
          case rel =>
            have e : worthK g l (k + 1) = (pb, pa) := by rw [HS.out, ← HP.out]; simp [wstep, HIN.out]
            exact ⟨k + 1, by omega, by go_num, by rw [e], by rw [e], HB.out.alloc HB.out.size _⟩
          case measure => simp [intOf]; omega
      · go_wp2_with fail
        go_roundw
        case rel =>
          have e : worthK g l (k + 1) = (pb, pa) := by rw [HS.out, ← HP.out]; simp [wstep, hgt]
          exact ⟨k + 1, by omega, by go_num, by rw [e], by rw [e], HB.out.alloc HB.out.size _⟩
        case measure => simp [intOf]; omega
    · obtain rfl : k = l.length := by omega
      have HB := Lib.hid hb
      clear hb
      go_wp2
      exact bodyPost_ret (v := .tuple #[.int .i64 (worthK g l l.length).1, .int .i64 (worthK g l l.length).2]) (by simp [results, Try.results108, go_sem]) rfl ⟨rfl, HB.out⟩

def gainV (l : List Off) (g : Nat) (pays : Int) : Int := wrap64 (worthV l g - pays)
set_option maxHeartbeats 400000 in
theorem gain_any (l : List Off) (g : Nat) (hg : g < 4294967296) (pays : Int) (v : Value) (R : Nat → Prop) (w : World) (hl : Offs w R v l) :
    Calls Try.prog 63 #[v, .int .u32 g, .int .i64 pays] w fun e w' => e = .returned (.int .i64 (gainV l g pays)) ∧ Below w.heap.size w w' := by
  go_enter Try.func63, Try.ntmps63
  go_wp2_with fail
  refine (worth_any l g hg v R w hl).mono ?_
  rintro e w1 ⟨rfl, hb1⟩
  have HB1 := Lib.hid hb1
  clear hb1
  go_wp2_with fail
  exact bodyPost_ret (v := .int .i64 (gainV l g pays)) (by simp [results, Try.results63, go_sem, gainV]) rfl ⟨rfl, HB1.out⟩
end Go.Proofs.Ytcigobiolbojhaa.Vb

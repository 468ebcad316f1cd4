/- Joined by program: TruS LaySort TruP TruQ TruT TruA TruB TruC TruD. -/
import Derived.Test.YtcigobiolbojhaaZj
import Derived.Test.YtcigobiolbojhaaZd
import Derived.Shelf.SortG.Plain
import Derived.Sort.OwnSortedInts
import Derived.Test.YtcigobiolbojhaaZe
import Derived.Test.YtcigobiolbojhaaZf
/- Plain law: what is gained by Costs and by Core. -/
namespace Go.Proofs.Ytcigobiolbojhaa.Vb
open Go.RowKit

theorem wrap64_in {x : Int} (h : -9223372036854775808 ≤ x ∧ x ≤ 9223372036854775807) : wrap64 x = x := (Go.IntWalk.i64_left x).symm.trans (Go.IntWalk.i64_in x h)

section
variable {n : Int} {bs : List (List Off)} {k : Nat}
theorem set_wf (hwf : ∀ x ∈ bs, ∀ o ∈ x, o.wf) {l : List Off} (hl : ∀ o ∈ l, o.wf) : ∀ x ∈ bs.set k l, ∀ o ∈ x, o.wf := by
  intro x hx o ho
  rcases List.mem_or_eq_of_mem_set hx with h | h
  · exact hwf x h o ho
  · subst h
    exact hl o ho
theorem offer_ok (hi : instE n bs = 0) (hwf : ∀ x ∈ bs, ∀ o ∈ x, o.wf) (hk : k < bs.length) {l : List Off} (hl : ∀ o ∈ l, o.wf) (hc : checkE n l = 0) : ∀ o ∈ l, Offer1 o := by
  have hi' := instE_set (i := k) hi (checkE_len hc) hc
  obtain ⟨h1, _⟩ := okb_of (set_wf (k := k) hwf hl) hi'
  intro o ho
  exact (h1.2 l (List.mem_of_getElem? (show (bs.set k l)[k]? = some l by simp [hk]))).2 o ho
theorem worthV_bd {tr : List Off} (h : ∀ o ∈ tr, Offer1 o) (g : Nat) : 0 ≤ worthV tr g ∧ worthV tr g ≤ 1099511627776 := by
  obtain ⟨h1, h2, _⟩ := worthV_at tr g
  refine ⟨h2, ?_⟩
  rcases h1 with h1 | ⟨o, ho, _, he⟩
  · omega
  · have := (h o ho).2.2.2
    omega
theorem goodL_of (hwf : ∀ x ∈ bs, ∀ o ∈ x, o.wf) : GoodL bs := fun l hl o ho => (hwf l hl o ho).1

/-- what is gained by Costs, of offers that may be -/
theorem by_costs (hi : instE n bs = 0) (hwf : ∀ x ∈ bs, ∀ o ∈ x, o.wf) (hk : k < bs.length) {tr l : List Off} (htr : ∀ o ∈ tr, Offer1 o) (hl : ∀ o ∈ l, o.wf) (hc : checkE n l = 0) :
    W (bs.set k []) (allOf n) ≤ W (bs.set k l) (allOf n) ∧
    ((byV n bs k 1 tr l = 0 ∧ byV n bs k 2 tr l = 0 ∧ W (bs.set k l) (allOf n) ≤ W (bs.set k []) (allOf n)) ∨
      ∃ (o : Off) (p : Int), o ∈ l ∧ SubG o.g (allOf n) ∧ W (bs.set k l) (allOf n) ≤ W (bs.set k []) (andNot (allOf n) o.g) + o.c ∧ byV n bs k 1 tr l = worthV tr o.g - (o.c - (W (bs.set k l) (allOf n) - W (bs.set k []) (allOf n))) ∧
        byV n bs k 2 tr l = worthV tr o.g - p ∧ o.c - (W (bs.set k l) (allOf n) - W (bs.set k []) (allOf n)) ≤ p ∧ p ≤ o.c) := by
  have hi' := instE_set (i := k) hi (checkE_len hc) hc
  have hwf' := set_wf (k := k) hwf hl
  have hkl : k < (bs.set k l).length := by simpa using hk
  have hyk : (bs.set k l)[k]? = some l := by simp [hk]
  have hss : (bs.set k l).set k [] = bs.set k [] := by simp
  obtain ⟨hok, _⟩ := okb_of hwf' hi'
  have hWb : W (bs.set k l) (allOf n) ≤ 35184372088832 := by have := hok.W_le 0 (allOf n); simpa using this
  have hW0 := W_nonneg (bs.set k []) (allOf n)
  have hle : W (bs.set k []) (allOf n) ≤ W (bs.set k l) (allOf n) := by
    have := W_set_le (bs.set k l) k (allOf n)
    rwa [hss] at this
  refine ⟨hle, ?_⟩
  obtain ⟨c, hcc⟩ : ∃ c, (bestC n (bs.set k l))[k]? = some c := ⟨_, List.getElem?_eq_getElem (by rw [bestC_len]; exact hkl)⟩
  have hwo : woW n (bs.set k l) k = W (bs.set k []) (allOf n) := by
    unfold woW
    rw [if_pos (instE_withE hi' hkl), Int.toNat_natCast, hss]
  rcases choose_get _ _ _ _ hcc with rfl | ⟨j, l', o, rfl, h2, h3⟩
  · left
    refine ⟨by unfold byV; rw [hcc]; simp, by unfold byV; rw [hcc]; simp, ?_⟩
    have := W_loser _ _ _ hcc
    rwa [hss] at this
  · right
    rw [hyk] at h2
    injection h2 with h2
    subst h2
    have hol := List.mem_of_getElem? h3
    have hO : Offer1 o := (hok.2 l (List.mem_of_getElem? hyk)).2 o hol
    obtain ⟨hs, hw2⟩ := W_win2 _ k (allOf n) j l o (goodL_of hwf') (allOf_lt n) hcc hyk h3
    rw [hss] at hw2
    have hcoin : coinAt (bs.set k l) k (j : Int) = o.c := by
      unfold coinAt
      rw [if_neg (by omega), hyk, Int.toNat_natCast]
      simp [h3]
    have hpay : (paysC n (bs.set k l))[k]? = some (o.c - (W (bs.set k l) (allOf n) - W (bs.set k []) (allOf n))) := by
      rw [paysC_get hcc]
      unfold payAt
      rw [if_neg (by omega), hcoin, hwo]
    have hb := bidsC_get hcc
    rw [hcoin] at hb
    have hfr := free_to hi' hwf' (bs.set k l).length (Nat.le_refl _)
    obtain ⟨p, b, _, hp, hb', _, hp0, hpb⟩ := payL_at hfr.1 hkl
    rw [hb] at hb'
    injection hb' with hb'
    subst hb'
    have hcost := costs_get (n := n) hkl
    rw [cost_eq hi' hwf' hb, hss] at hcost
    have hqp := cost_le_pay hi' hwf' k _ _ hcost hp
    have hwv := worthV_bd htr o.g
    have hO1 := hO.2.2
    refine ⟨o, p, hol, hs, hw2, ?_, ?_, by omega, hpb⟩
    · unfold byV
      rw [hcc]
      simp only [Option.getD_some, Int.toNat_natCast, h3, Option.map_some]
      rw [if_neg (by omega)]
      unfold payR gainV
      rw [if_pos rfl, hpay, Option.getD_some]
      exact wrap64_in (by omega)
    · unfold byV
      rw [hcc]
      simp only [Option.getD_some, Int.toNat_natCast, h3, Option.map_some]
      rw [if_neg (by omega)]
      unfold payR gainV
      rw [if_neg (by decide), hp, Option.getD_some]
      exact wrap64_in (by omega)

/-- by the true offers nobody loses, and by no others more is gained -/
theorem by_truth (hi : instE n bs = 0) (hwf : ∀ x ∈ bs, ∀ o ∈ x, o.wf) (hk : k < bs.length) {tr l : List Off} (hwt : ∀ o ∈ tr, o.wf) (hct : checkE n tr = 0) (hl : ∀ o ∈ l, o.wf) (hc : checkE n l = 0) : byV n bs k 1 tr l ≤ byV n bs k 1 tr tr := by
  have htr := offer_ok hi hwf hk hwt hct
  obtain ⟨t0, t1⟩ := by_costs hi hwf hk htr hwt hct
  have hT : W (bs.set k tr) (allOf n) - W (bs.set k []) (allOf n) ≤ byV n bs k 1 tr tr := by
    rcases t1 with ⟨h1, _, h2⟩ | ⟨o, p, ho, _, _, h1, _⟩
    · omega
    · have := (worthV_at tr o.g).2.2 o ho ((andNot_zero_iff (hwt o ho).1 (hwt o ho).1).2 (fun _ h => h))
      omega
  have h0 : 0 ≤ byV n bs k 1 tr tr := by omega
  obtain ⟨l0, l1⟩ := by_costs hi hwf hk htr hl hc
  rcases l1 with ⟨h1, _⟩ | ⟨o, p, ho, hs, hw, h1, _⟩
  · omega
  · have hog := (hl o ho).1
    have hgb := goodL_of (bs := bs.set k []) (set_wf (k := k) hwf (by simp))
    have hfr := W_free (bs.set k []) (andNot (allOf n) o.g) (allOf n) hgb (andNot_lt (allOf_lt n)) (allOf_lt n) (andNot_sub hog)
    rcases (worthV_at tr o.g).1 with hz | ⟨o', ho', hg', hc'⟩
    · omega
    · have ho'g := (hwt o' ho').1
      have hs' := (andNot_zero_iff ho'g hog).1 hg'
      have hput := W_put bs k (allOf n) tr o' (goodL_of hwf) (allOf_lt n) ho' ho'g (hs'.trans hs) hk
      have hsub : SubG (andNot (allOf n) o.g) (andNot (allOf n) o'.g) := fun i hb => by
        rw [andNot_bit hog] at hb
        rw [andNot_bit ho'g]
        simp only [Bool.and_eq_true, Bool.not_eq_true', decide_eq_true_eq] at hb ⊢
        refine ⟨hb.1, hb.2.1, ?_⟩
        cases h9 : o'.g.testBit i with
        | false => rfl
        | true =>
          have := hs' i h9
          rw [this] at hb
          simp at hb
      have hfr2 := W_free (bs.set k []) (andNot (allOf n) o.g) (andNot (allOf n) o'.g) hgb (andNot_lt (allOf_lt n)) (andNot_lt (allOf_lt n)) hsub
      omega
/-- by Core nobody loses by the truth, and gains no more than by Costs -/
theorem by_core (hi : instE n bs = 0) (hwf : ∀ x ∈ bs, ∀ o ∈ x, o.wf) (hk : k < bs.length) {tr : List Off} (hwt : ∀ o ∈ tr, o.wf) (hct : checkE n tr = 0) : 0 ≤ byV n bs k 2 tr tr ∧ byV n bs k 2 tr tr ≤ byV n bs k 1 tr tr := by
  have htr := offer_ok hi hwf hk hwt hct
  obtain ⟨t0, t1⟩ := by_costs hi hwf hk htr hwt hct
  rcases t1 with ⟨h1, h2, _⟩ | ⟨o, p, ho, _, _, h1, h2, h3, h4⟩
  · omega
  · have := (worthV_at tr o.g).2.2 o ho ((andNot_zero_iff (hwt o ho).1 (hwt o ho).1).2 (fun _ h => h))
    omega
theorem by_none (hk : k < bs.length) (r : Int) (tr : List Off) : byV n bs k r tr [] = 0 := by
  have hyk : (bs.set k [])[k]? = some [] := by simp [hk]
  obtain ⟨c, hcc⟩ : ∃ c, (bestC n (bs.set k []))[k]? = some c := ⟨_, List.getElem?_eq_getElem (by rw [bestC_len]; simpa using hk)⟩
  rcases choose_get _ _ _ _ hcc with rfl | ⟨j, l', o, rfl, h2, h3⟩
  · unfold byV
    rw [hcc]
    simp
  · rw [hyk] at h2
    injection h2 with h2
    subst h2
    simp at h3
end

theorem bestZ_none {own : Int} : ∀ (l : List (Int × Int)), (∀ x ∈ l, x.2 ≤ own) → bestZ own l = (own, -1)
  | [], _ => rfl
  | x :: l, h => by
    have h1 := h x (by simp)
    have ih := bestZ_none l (fun y hy => h y (by simp [hy]))
    unfold bestZ at ih ⊢
    rw [List.foldl_cons, if_neg (by simp only; omega)]
    exact ih
/-- all that the law asks of a package lot -/
theorem pays_law {n : Int} {bs : List (List Off)} {k : Nat} {tr : List Off} {ts : List (List Off)} (hz : askedE n bs (k : Int) 1 (tr :: ts) = 0) (hwf : ∀ x ∈ bs, ∀ o ∈ x, o.wf) (hwt : ∀ o ∈ tr, o.wf) (hws : ∀ x ∈ ts, ∀ o ∈ x, o.wf) :
    regretV n bs (k : Int) 1 tr ts = .tuple #[.int .i64 0, .int .i64 (-1), .int .i64 0] ∧ ∃ (co ce : Int), packV n bs (k : Int) 1 tr [] = .tuple #[.int .i64 ce, .int .i64 0, .int .i64 0] ∧ packV n bs (k : Int) 2 tr [] = .tuple #[.int .i64 co, .int .i64 0, .int .i64 0] ∧ 0 ≤ co ∧ co ≤ ce := by
  obtain ⟨hi, _, hk', _, hck⟩ := askedE_zero hz
  have hk : k < bs.length := by omega
  have hct := hck tr (by simp)
  have hasked : ∀ r : Int, (r = 1 ∨ r = 2) → askedE n bs (k : Int) r [tr, []] = 0 := fun r hr => by
    unfold askedE
    rw [if_neg (by simpa using hi), if_neg (by omega)]
    refine firstE_none fun l hl => ?_
    simp at hl
    rcases hl with rfl | rfl
    · exact hct
    · obtain ⟨a1, a2, _⟩ := instE_zero hi
      exact checkE_nil ⟨a1, a2⟩
  obtain ⟨h1, h2⟩ := by_core hi hwf hk hwt hct
  refine ⟨?_, byV n bs k 2 tr tr, byV n bs k 1 tr tr, ?_, ?_, h1, h2⟩
  · unfold regretV
    rw [if_pos hz, Int.toNat_natCast, bestZ_none]
    · simp only [Int.sub_self]
      rw [wrap64_in (by omega)]
    · intro x hx
      obtain ⟨j, hj⟩ := List.mem_iff_getElem?.1 hx
      have hjl : j < ts.length := by have := (List.getElem?_eq_some_iff.1 hj).1; rwa [gainsZ_len] at this
      obtain ⟨l, hl⟩ : ∃ l, ts[j]? = some l := ⟨_, List.getElem?_eq_getElem hjl⟩
      rw [gainsZ_get hl] at hj
      injection hj with hj
      subst hj
      have hlm := List.mem_of_getElem? hl
      exact by_truth hi hwf hk hwt hct (hws l hlm) (hck l (by simp [hlm]))
  · unfold packV
    rw [if_pos (hasked 1 (.inl rfl)), Int.toNat_natCast, by_none hk]
  · unfold packV
    rw [if_pos (hasked 2 (.inr rfl)), Int.toNat_natCast, by_none hk]
end Go.Proofs.Ytcigobiolbojhaa.Vb

/- slices.Sort over int64, as the kit's own tool lays it at this seat; over a row of the call's own. -/
namespace Go.Proofs.Ytcigobiolbojhaa.Vb
open Go.Shelf Go.Sort Go.RowKit

def sort_ren : Go.Shelf.Ren := ⟨fun | 53 => 112 | 64 => 142 | 63 => 141 | 78 => 163 | 79 => 164 | 70 => 154 | 71 => 155 | 72 => 156 | 73 => 157 | 74 => 158 | 75 => 159 | 59 => 160 | 76 => 161 | 77 => 162 | 88 => 167 | 89 => 168 | 90 => 169 | 91 => 170 | 92 => 171 | 68 => 172 | 96 => 173 | n => n, fun | 22 => 34 | 23 => 2 | 3 => 3 | 51 => 207 | 0 => 0 | 67 => 42 | 69 => 212 | 4 => 4 | 61 => 224 | 60 => 223 | 44 => 229 | 5 => 5 | 9 => 9 | 75 => 234 | 79 => 238 | 83 => 240 | 84 => 141 | n => n, fun | n => n⟩
theorem sort_lay : Go.Proofs.SlLaysN.n53 Try.prog sort_ren := {
  mixed := by kernel_rfl
  f53 := ⟨Try.f112.name, by decide, Try.func112.trans (congrArg some (by kernel_rfl))⟩
  f59 := ⟨Try.f160.name, by decide, Try.func160.trans (congrArg some (by kernel_rfl))⟩
  f63 := ⟨Try.f141.name, by decide, Try.func141.trans (congrArg some (by kernel_rfl))⟩
  f64 := Try.func142.trans (congrArg some (by kernel_rfl))
  f68 := ⟨Try.f172.name, by decide, Try.func172.trans (congrArg some (by kernel_rfl))⟩
  f70 := ⟨Try.f154.name, by decide, Try.func154.trans (congrArg some (by kernel_rfl))⟩
  f71 := ⟨Try.f155.name, by decide, Try.func155.trans (congrArg some (by kernel_rfl))⟩
  f72 := ⟨Try.f156.name, by decide, Try.func156.trans (congrArg some (by kernel_rfl))⟩
  f73 := ⟨Try.f157.name, by decide, Try.func157.trans (congrArg some (by kernel_rfl))⟩
  f74 := ⟨Try.f158.name, by decide, Try.func158.trans (congrArg some (by kernel_rfl))⟩
  f75 := ⟨Try.f159.name, by decide, Try.func159.trans (congrArg some (by kernel_rfl))⟩
  f76 := ⟨Try.f161.name, by decide, Try.func161.trans (congrArg some (by kernel_rfl))⟩
  f77 := ⟨Try.f162.name, by decide, Try.func162.trans (congrArg some (by kernel_rfl))⟩
  f78 := Try.func163.trans (congrArg some (by kernel_rfl))
  f79 := Try.func164.trans (congrArg some (by kernel_rfl))
  f88 := ⟨Try.f167.name, by decide, Try.func167.trans (congrArg some (by kernel_rfl))⟩
  f89 := Try.func168.trans (congrArg some (by kernel_rfl))
  f90 := Try.func169.trans (congrArg some (by kernel_rfl))
  f91 := ⟨Try.f170.name, by decide, Try.func170.trans (congrArg some (by kernel_rfl))⟩
  f92 := ⟨Try.f171.name, by decide, Try.func171.trans (congrArg some (by kernel_rfl))⟩
  f96 := ⟨Try.f173.name, by decide, Try.func173.trans (congrArg some (by kernel_rfl))⟩
  t0 := Try.underlying0
  a0 := Try.isAgg0
  z0 := Try.sizeOf0
  v0 := Try.zeroValue0
  t3 := Try.underlying3
  a3 := Try.isAgg3
  z3 := Try.sizeOf3
  v3 := Try.zeroValue3
  t4 := Try.underlying4
  a4 := Try.isAgg4
  z4 := Try.sizeOf4
  v4 := Try.zeroValue4
  t5 := Try.underlying5
  a5 := Try.isAgg5
  z5 := Try.sizeOf5
  v5 := Try.zeroValue5
  t9 := Try.underlying9
  a9 := Try.isAgg9
  z9 := Try.sizeOf9
  v9 := Try.zeroValue9
  t22 := Try.underlying34
  a22 := Try.isAgg34
  z22 := Try.sizeOf34
  v22 := Try.zeroValue34
  t23 := Try.underlying2
  a23 := Try.isAgg2
  z23 := Try.sizeOf2
  v23 := Try.zeroValue2
  t44 := Try.underlying229
  a44 := Try.isAgg229
  z44 := Try.sizeOf229
  v44 := Try.zeroValue229
  t51 := Try.underlying207
  a51 := Try.isAgg207
  z51 := Try.sizeOf207
  v51 := Try.zeroValue207
  t60 := Try.underlying223
  a60 := Try.isAgg223
  z60 := Try.sizeOf223
  v60 := Try.zeroValue223
  t61 := Try.underlying224
  a61 := Try.isAgg224
  z61 := Try.sizeOf224
  v61 := Try.zeroValue224
  t67 := Try.underlying42
  a67 := Try.isAgg42
  z67 := Try.sizeOf42
  v67 := Try.zeroValue42
  t69 := Try.underlying212
  a69 := Try.isAgg212
  z69 := Try.sizeOf212
  v69 := Try.zeroValue212
  t75 := Try.underlying234
  a75 := Try.isAgg234
  z75 := Try.sizeOf234
  v75 := Try.zeroValue234
  t79 := Try.underlying238
  a79 := Try.isAgg238
  z79 := Try.sizeOf238
  v79 := Try.zeroValue238
  t83 := Try.underlying240
  a83 := Try.isAgg240
  z83 := Try.sizeOf240
  v83 := Try.zeroValue240
  t84 := Try.underlying141
  a84 := Try.isAgg141
  z84 := Try.sizeOf141
  v84 := Try.zeroValue141 }

theorem sort64_any {base cap : Nat} {A : Option Addr} (zs : List Int) (w : World) (h : w.ownsRow base 2 1 (.slice A zs.length cap) zs.length (ints zs)) (h0 : 0 < zs.length) (hn : zs.length ≤ 1000000) (hb : base ≤ w.heap.size) :
    Calls Try.prog 112 #[.slice A zs.length cap] w fun e w' => e = .returned (.tuple #[]) ∧ ∃ ts : List Int, ts.Perm zs ∧ w'.ownsRow base 2 1 (.slice A zs.length cap) zs.length (ints ts) ∧ Below base w w' := by
  rcases h.2 with ⟨hnil, _⟩ | ⟨g, cap2, cur, hv, hbase, hcell, h1, h2, h3, h4⟩
  · injection hnil with _ hl _
    omega
  · injection hv with hA _ hc
    subst hA hc
    refine (show Calls Try.prog 112 #[.slice (some ⟨g, 0, none⟩) zs.length cap] w _ from AnyG.slices_Sort_int sort_lay g 0 cap zs w (holds_of_blockI hcell (by simpa [ints] using h4)) (Array.getElem?_eq_some_iff.1 hcell).1 (by omega)).mono ?_
    rintro e w' ⟨rfl, n, os, rfl⟩
    refine ⟨rfl, zs.mergeSort fun x y => decide (x ≤ y), List.mergeSort_perm _ _, ?_, ?_⟩
    · have := ownsRow_sortedI (n := n) (os := os) (ss := zs) (ts := zs.mergeSort fun x y => decide (x ≤ y)) (by simp) hbase hcell h1 h2 (by simpa using h3)
      simpa [ints] using this
    · exact (Below.refl base w).grown (grownBy_sortedI _) hb (fun k e => by cases e; exact hbase)
end Go.Proofs.Ytcigobiolbojhaa.Vb

/- Plain law: at a sealed lot nobody gains by another bid than the truth. -/
namespace Go.Proofs.Ytcigobiolbojhaa.Vb

theorem bestK_spec (floor but : Int) (l : List Sec) : ∀ n, n ≤ l.length → match bestK floor but l n with
    | none => ∀ (j : Nat) (s : Sec), j < n → l[j]? = some s → (j : Int) ≠ but → s.c < floor
    | some (j, c) => j < n ∧ (j : Int) ≠ but ∧ floor ≤ c ∧ (∃ s, l[j]? = some s ∧ s.c = c) ∧ ∀ (i : Nat) (s : Sec), i < n → l[i]? = some s → (i : Int) ≠ but → s.c ≤ c
  | 0, _ => fun j s h => absurd h (by omega)
  | n + 1, hn => by
    have ih := bestK_spec floor but l n (by omega)
    obtain ⟨x, hx⟩ : ∃ x, l[n]? = some x := ⟨_, List.getElem?_eq_getElem (by omega)⟩
    rw [bestK_succ hx]
    unfold bstep
    cases hb : bestK floor but l n with
    | none =>
      rw [hb] at ih
      simp only at ih
      by_cases h1 : (n : Int) ≠ but ∧ floor ≤ x.c
      · have : (decide ((n : Int) ≠ but) && decide (floor ≤ x.c) && beats none x.c) = true := by simp [h1.1, h1.2, beats]
        rw [if_pos this]
        refine ⟨by omega, h1.1, h1.2, ⟨x, hx, rfl⟩, fun i s hi hs hne => ?_⟩
        rcases Nat.lt_or_ge i n with h | h
        · have := ih i s h hs hne
          omega
        · obtain rfl : i = n := by omega
          rw [hx] at hs
          injection hs with hs
          subst hs
          exact Int.le_refl _
      · have : ¬ (decide ((n : Int) ≠ but) && decide (floor ≤ x.c) && beats none x.c) = true := by
          intro h
          simp [beats] at h
          exact h1 ⟨h.1, h.2⟩
        rw [if_neg this]
        intro j s hj hs hne
        rcases Nat.lt_or_ge j n with h | h
        · exact ih j s h hs hne
        · obtain rfl : j = n := by omega
          rw [hx] at hs
          injection hs with hs
          subst hs
          rcases (show x.c < floor ∨ floor ≤ x.c by omega) with h2 | h2
          · exact h2
          · exact absurd ⟨hne, h2⟩ h1
    | some p =>
      obtain ⟨j0, c0⟩ := p
      rw [hb] at ih
      simp only at ih
      obtain ⟨i1, i2, i3, i4, i5⟩ := ih
      by_cases h1 : (n : Int) ≠ but ∧ floor ≤ x.c ∧ c0 < x.c
      · have : (decide ((n : Int) ≠ but) && decide (floor ≤ x.c) && beats (some (j0, c0)) x.c) = true := by simp [h1.1, h1.2.1, h1.2.2, beats]
        rw [if_pos this]
        refine ⟨by omega, h1.1, h1.2.1, ⟨x, hx, rfl⟩, fun i s hi hs hne => ?_⟩
        rcases Nat.lt_or_ge i n with h | h
        · have := i5 i s h hs hne
          omega
        · obtain rfl : i = n := by omega
          rw [hx] at hs
          injection hs with hs
          subst hs
          exact Int.le_refl _
      · have : ¬ (decide ((n : Int) ≠ but) && decide (floor ≤ x.c) && beats (some (j0, c0)) x.c) = true := by
          intro h
          simp [beats] at h
          exact h1 ⟨h.1.1, h.1.2, h.2⟩
        rw [if_neg this]
        refine ⟨by omega, i2, i3, i4, fun i s hi hs hne => ?_⟩
        rcases Nat.lt_or_ge i n with h | h
        · exact i5 i s h hs hne
        · obtain rfl : i = n := by omega
          rw [hx] at hs
          injection hs with hs
          subst hs
          rcases (show x.c < floor ∨ floor ≤ x.c by omega) with h2 | h2
          · omega
          · rcases (show c0 < x.c ∨ x.c ≤ c0 by omega) with h3 | h3
            · exact absurd ⟨hne, h2, h3⟩ h1
            · omega
theorem bestK_congr (floor : Int) (k : Nat) (l l' : List Sec) (h : ∀ j, j ≠ k → l[j]? = l'[j]?) (hk : l[k]?.isSome = l'[k]?.isSome) : ∀ n, bestK floor (k : Int) l n = bestK floor (k : Int) l' n
  | 0 => rfl
  | n + 1 => by
    have ih := bestK_congr floor k l l' h hk n
    simp only [bestK]
    by_cases hn : n = k
    · subst hn
      cases h1 : l[n]? with
      | none =>
        rw [h1] at hk
        cases h2 : l'[n]? with
        | none => exact ih
        | some y => rw [h2] at hk; simp at hk
      | some x =>
        rw [h1] at hk
        cases h2 : l'[n]? with
        | none => rw [h2] at hk; simp at hk
        | some y => simp [bstep, ih]
    · rw [h n hn, ih]

/-- bids in which bidder b stands at place k -/
structure LaidAt (floor : Int) (l : List Sec) (b : Int) (k N : Nat) (A : List Sec) (c : Int) (M : List Sec) : Prop where
  len : M.length = N
  at_ : M[k]? = some ⟨b, c⟩
  oth : ∀ j, j ≠ k → M[j]? = A[j]?
  one : ∀ (j : Nat) (s : Sec), M[j]? = some s → s.b = b → j = k
  old : ∀ (j : Nat) (s : Sec), j ≠ k → M[j]? = some s → s ∈ l
  ok : sellE floor M = 0
theorem sellE_ok {floor : Int} {l : List Sec} : sellE floor l = 0 ↔ (coinB floor = true ∧ (∀ s ∈ l, secBad s = false) ∧ (l.map (·.b)).Nodup) := by
  unfold sellE sellBad
  constructor
  · intro h
    split at h
    · omega
    · rename_i h1
      split at h
      · rename_i h2
        simp only [Bool.or_eq_true, Bool.not_eq_true', not_or, Bool.not_eq_false, List.any_eq_true, not_exists, not_and, Bool.not_eq_true] at h1
        exact ⟨h1.1, fun s hs => h1.2 s hs, h2⟩
      · omega
  · rintro ⟨h1, h2, h3⟩
    have : ¬ (!coinB floor || l.any secBad) = true := by
      simp only [Bool.or_eq_true, Bool.not_eq_true', not_or, Bool.not_eq_false, List.any_eq_true, not_exists, not_and, Bool.not_eq_true]
      exact ⟨h1, fun s hs => h2 s hs⟩
    rw [if_neg this, if_pos h3]
theorem secBad_ok {b c : Int} (hb : 0 ≤ b) (hc : coinB c = true) : secBad ⟨b, c⟩ = false := by
  unfold secBad
  simp [hc]
  omega
theorem laidS_at {floor : Int} {l : List Sec} {b : Int} (hl : sellE floor l = 0) (hb : 0 ≤ b) : ∃ k N, ∀ c, coinB c = true → LaidAt floor l b k N (laidS l b 0) c (laidS l b c) := by
  obtain ⟨h1, h2, h3⟩ := sellE_ok.1 hl
  cases ha : atF (isB b) l with
  | some k =>
    have hs : ∀ c, laidS l b c = l.set k ⟨b, c⟩ := fun c => by unfold laidS; rw [ha]
    obtain ⟨o, ho, hob⟩ := atF_get ha
    have hkl : k < l.length := (List.getElem?_eq_some_iff.1 ho).1
    have hob' : o.b = b := by simpa [isB] using hob
    have hmap : ∀ c, (l.set k ⟨b, c⟩).map (·.b) = l.map (·.b) := fun c => by
      rw [List.map_set]
      apply List.ext_getElem?
      intro i
      by_cases hi : i = k
      · subst hi
        simp [hkl, ho, hob', List.getElem?_set]
        have := List.getElem?_eq_getElem hkl
        rw [ho] at this
        injection this with this
        rw [← this, hob']
      · rw [List.getElem?_set_ne (by omega)]
    refine ⟨k, l.length, fun c hc => ?_⟩
    rw [hs c, hs 0]
    refine ⟨by simp, by simp [hkl], fun j hj => by rw [List.getElem?_set_ne (by omega), List.getElem?_set_ne (by omega)], fun j s hj hsb => ?_, fun j s hj hjs => ?_, ?_⟩
    · have hnd : ((l.set k ⟨b, c⟩).map (·.b)).Nodup := by rw [hmap]; exact h3
      have hjl : j < l.length := by have := (List.getElem?_eq_some_iff.1 hj).1; simpa using this
      have e1 : ((l.set k ⟨b, c⟩).map (·.b))[j]? = some b := by rw [List.getElem?_map, hj]; simp [hsb]
      have e2 : ((l.set k ⟨b, c⟩).map (·.b))[k]? = some b := by rw [List.getElem?_map]; simp [hkl]
      exact (List.getElem?_inj (by simpa using hjl) hnd).1 (e1.trans e2.symm)
    · rw [List.getElem?_set_ne (by omega)] at hjs
      exact List.mem_of_getElem? hjs
    · refine sellE_ok.2 ⟨h1, fun s hs => ?_, by rw [hmap]; exact h3⟩
      rcases List.mem_or_eq_of_mem_set hs with h | h
      · exact h2 s h
      · subst h
        exact secBad_ok hb hc
  | none =>
    have hs : ∀ c, laidS l b c = l ++ [⟨b, c⟩] := fun c => by unfold laidS; rw [ha]
    have hno : ∀ s ∈ l, s.b ≠ b := fun s hs hsb => by
      have h0 := atFI_ge (isB b) l
      unfold atFI at h0
      rw [ha] at h0
      have : l.any (isB b) = true := List.any_eq_true.2 ⟨s, hs, by simpa [isB] using hsb⟩
      rw [this] at h0
      simp at h0
    refine ⟨l.length, l.length + 1, fun c hc => ?_⟩
    rw [hs c, hs 0]
    refine ⟨by simp, by simp, fun j hj => ?_, fun j s hj hsb => ?_, fun j s hj hjs => ?_, ?_⟩
    · rcases Nat.lt_or_ge j l.length with h | h
      · rw [List.getElem?_append_left h, List.getElem?_append_left h]
      · rw [List.getElem?_eq_none (by simp; omega), List.getElem?_eq_none (by simp; omega)]
    · rcases Nat.lt_or_ge j l.length with h | h
      · rw [List.getElem?_append_left h] at hj
        exact absurd hsb (hno s (List.mem_of_getElem? hj))
      · have := (List.getElem?_eq_some_iff.1 hj).1
        simp at this
        omega
    · rcases Nat.lt_or_ge j l.length with h | h
      · rw [List.getElem?_append_left h] at hjs
        exact List.mem_of_getElem? hjs
      · have := (List.getElem?_eq_some_iff.1 hjs).1
        simp at this
        omega
    · refine sellE_ok.2 ⟨h1, fun s hs => ?_, ?_⟩
      · rcases List.mem_append.1 hs with h | h
        · exact h2 s h
        · simp at h
          subst h
          exact secBad_ok hb hc
      · rw [List.map_append, List.nodup_append]
        refine ⟨h3, by simp, fun x hx y hy => ?_⟩
        simp at hy
        subst hy
        obtain ⟨s, hs, rfl⟩ := List.mem_map.1 hx
        exact hno s hs

/-- what b pays, if it wins -/
def priceP (floor : Int) (l : List Sec) (b : Int) (k : Nat) : Int := nextC floor (laidS l b 0) k
structure GainsAt (floor : Int) (l : List Sec) (b : Int) (p : Int) : Prop where
  pc : 0 ≤ p ∧ p ≤ 1099511627776
  win : ∀ worth c, coinB worth = true → coinB c = true → gainsW floor l b worth c = worth - p ∧ p ≤ c ∨ gainsW floor l b worth c = 0 ∧ ¬ p < c
  low : (∃ s ∈ l, s.c = p) ∨ (p = floor ∧ ∀ worth, coinB worth = true → gainsW floor l b worth floor = worth - p)
theorem gains_at {floor : Int} {l : List Sec} {b : Int} (hl : sellE floor l = 0) (hb : 0 ≤ b) : ∃ p, GainsAt floor l b p := by
  obtain ⟨hfl, hbad, _⟩ := sellE_ok.1 hl
  obtain ⟨k, N, hM⟩ := laidS_at hl hb
  have hf := coinB_iff.1 hfl
  have h0 := hM 0 (by decide)
  have hkN : k < N := by rw [← h0.len]; exact (List.getElem?_eq_some_iff.1 h0.at_).1
  -- the price does not hang on the bid
  have hnx : ∀ c, coinB c = true → bestK floor (k : Int) (laidS l b c) N = bestK floor (k : Int) (laidS l b 0) N := fun c hc => bestK_congr floor k _ _ (hM c hc).oth (by rw [(hM c hc).at_, h0.at_]; rfl) N
  have hsp := bestK_spec floor (k : Int) (laidS l b 0) N (by rw [h0.len]; exact Nat.le_refl _)
  obtain ⟨p, hp⟩ : ∃ p, p = nextC floor (laidS l b 0) k := ⟨_, rfl⟩
  have hpe : ∀ c, coinB c = true → nextC floor (laidS l b c) k = p := fun c hc => by
    rw [hp]
    unfold nextC
    rw [(hM c hc).len, h0.len, hnx c hc]
  -- who wins
  have hwin : ∀ c, coinB c = true → (∀ (j : Nat) (s : Sec), j ≠ k → (laidS l b c)[j]? = some s → s.c < c ∨ s.c < floor) → floor ≤ c → bestK floor (-1) (laidS l b c) N = some (k, c) := fun c hc ho hfc => by
    have hs := bestK_spec floor (-1) (laidS l b c) N (by rw [(hM c hc).len]; exact Nat.le_refl _)
    cases hr : bestK floor (-1) (laidS l b c) N with
    | none =>
      rw [hr] at hs
      have := hs k _ hkN (hM c hc).at_ (by omega)
      simp only at this
      omega
    | some q =>
      obtain ⟨j, c'⟩ := q
      rw [hr] at hs
      obtain ⟨s1, s2, s3, ⟨x, s4, s5⟩, s6⟩ := hs
      have hck := s6 k _ hkN (hM c hc).at_ (by omega)
      simp only at hck
      by_cases hjk : j = k
      · subst hjk
        rw [(hM c hc).at_] at s4
        injection s4 with s4
        subst s4
        rw [← s5]
      · rcases ho j x hjk s4 with h | h <;> omega
  have hcase : ∀ c, coinB c = true → (∀ worth, coinB worth = true → gainsW floor l b worth c = if bestK floor (-1) (laidS l b c) N = some (k, c) then worth - p else 0) := fun c hc worth hw => by
    unfold gainsW sold4
    rw [(hM c hc).ok, if_pos rfl, (hM c hc).len]
    have hcw := coinB_iff.1 hw
    cases hr : bestK floor (-1) (laidS l b c) N with
    | none => simp
    | some q =>
      obtain ⟨j, c'⟩ := q
      obtain ⟨g1, s, g2, g3⟩ := bestK_get hr
      by_cases hjk : j = k
      · subst hjk
        rw [(hM c hc).at_] at g2
        injection g2 with g2
        subst g2
        simp only at g3
        subst g3
        simp only [(hM _ hc).at_, hpe _ hc, Option.map_some, Option.getD_some, and_self, if_true]
        refine Go.IntWalk.i64_in _ ?_
        have hpb : 0 ≤ p ∧ p ≤ 1099511627776 := by
          rw [hp]
          unfold nextC
          rw [h0.len]
          cases hx : bestK floor (j : Int) (laidS l b 0) N with
          | none => simpa using hf
          | some q2 =>
            obtain ⟨j2, c2⟩ := q2
            rw [hx] at hsp
            obtain ⟨_, a2, _, ⟨x, a4, a5⟩, _⟩ := hsp
            have hxl := h0.old j2 x (by omega) a4
            have := hbad x hxl
            unfold secBad at this
            simp at this
            have := coinB_iff.1 this.2
            simp only
            omega
        omega
      · have hnb : s.b ≠ b := fun e => hjk ((hM c hc).one j s g2 e)
        rw [if_neg (by simp [g2, hnb]), if_neg (by simp; omega)]
  have hpb : 0 ≤ p ∧ p ≤ 1099511627776 := by
    rw [hp]
    unfold nextC
    rw [h0.len]
    cases hx : bestK floor (k : Int) (laidS l b 0) N with
    | none => simpa using hf
    | some q2 =>
      obtain ⟨j2, c2⟩ := q2
      rw [hx] at hsp
      obtain ⟨_, a2, _, ⟨x, a4, a5⟩, _⟩ := hsp
      have hxl := h0.old j2 x (by omega) a4
      have := hbad x hxl
      unfold secBad at this
      simp at this
      have := coinB_iff.1 this.2
      simp only
      omega
  -- the others, by the price
  have hoth : ∀ c, coinB c = true → ∀ (j : Nat) (s : Sec), j ≠ k → (laidS l b c)[j]? = some s → s.c < floor ∨ s.c ≤ p := fun c hc j s hj hs => by
    rw [(hM c hc).oth j hj] at hs
    have hjN : j < N := by rw [← h0.len]; exact (List.getElem?_eq_some_iff.1 hs).1
    cases hx : bestK floor (k : Int) (laidS l b 0) N with
    | none => rw [hx] at hsp; exact .inl (hsp j s hjN hs (by omega))
    | some q2 =>
      obtain ⟨j2, c2⟩ := q2
      rw [hx] at hsp
      have hp2 : p = c2 := by rw [hp]; unfold nextC; rw [h0.len, hx]
      exact .inr (by rw [hp2]; exact hsp.2.2.2.2 j s hjN hs (by omega))
  have hfp : floor ≤ p := by
    rw [hp]
    unfold nextC
    rw [h0.len]
    cases hx : bestK floor (k : Int) (laidS l b 0) N with
    | none => exact Int.le_refl _
    | some q2 =>
      obtain ⟨j2, c2⟩ := q2
      rw [hx] at hsp
      exact hsp.2.2.1
  refine ⟨p, hpb, fun worth c hw hc => ?_, ?_⟩
  · rw [hcase c hc worth hw]
    by_cases hwn : bestK floor (-1) (laidS l b c) N = some (k, c)
    · rw [if_pos hwn]
      refine .inl ⟨rfl, ?_⟩
      have hs := bestK_spec floor (-1) (laidS l b c) N (by rw [(hM c hc).len]; exact Nat.le_refl _)
      rw [hwn] at hs
      obtain ⟨_, _, s3, _, s6⟩ := hs
      cases hx : bestK floor (k : Int) (laidS l b 0) N with
      | none =>
        have : p = floor := by rw [hp]; unfold nextC; rw [h0.len, hx]
        omega
      | some q2 =>
        obtain ⟨j2, c2⟩ := q2
        have hp2 : p = c2 := by rw [hp]; unfold nextC; rw [h0.len, hx]
        rw [hx] at hsp
        obtain ⟨a1, a2, _, ⟨x, a4, a5⟩, _⟩ := hsp
        have := s6 j2 x a1 (by rw [(hM c hc).oth j2 (by omega)]; exact a4) (by omega)
        omega
    · rw [if_neg hwn]
      refine .inr ⟨rfl, fun hlt => hwn (hwin c hc (fun j s hj hs => ?_) (by omega))⟩
      rcases hoth c hc j s hj hs with h | h
      · exact .inr h
      · exact .inl (by omega)
  · cases hx : bestK floor (k : Int) (laidS l b 0) N with
    | none =>
      have hpf : p = floor := by rw [hp]; unfold nextC; rw [h0.len, hx]
      refine .inr ⟨hpf, fun worth hw => ?_⟩
      rw [hcase floor hfl worth hw, if_pos (hwin floor hfl (fun j s hj hs => ?_) (Int.le_refl _))]
      rw [hx] at hsp
      rw [(hM floor hfl).oth j hj] at hs
      have hjN : j < N := by rw [← h0.len]; exact (List.getElem?_eq_some_iff.1 hs).1
      exact .inr (hsp j s hjN hs (by omega))
    | some q2 =>
      obtain ⟨j2, c2⟩ := q2
      have hp2 : p = c2 := by rw [hp]; unfold nextC; rw [h0.len, hx]
      rw [hx] at hsp
      obtain ⟨_, a2, _, ⟨x, a4, a5⟩, _⟩ := hsp
      exact .inl ⟨x, h0.old j2 x (by omega) a4, by rw [hp2]; exact a5⟩

/-- the truth gains as much as any bid, and is never worth less than nothing -/
theorem truth_best {floor : Int} {l : List Sec} {b worth c : Int} (hl : sellE floor l = 0) (hb : 0 ≤ b) (hw : coinB worth = true) (hc : coinB c = true) : gainsW floor l b worth c ≤ gainsW floor l b worth worth ∧ 0 ≤ gainsW floor l b worth worth := by
  obtain ⟨p, h⟩ := gains_at hl hb
  have h1 := h.win worth worth hw hw
  have h2 := h.win worth c hw hc
  have hp := h.pc
  omega
/-- the bids at which what is gained can change -/
def triesB (floor : Int) (l : List Sec) : List Int := [0, floor] ++ l.flatMap fun s => [s.c, min (s.c + 1) 1099511627776]
theorem tries_best {floor : Int} {l : List Sec} {b worth : Int} (hl : sellE floor l = 0) (hb : 0 ≤ b) (hw : coinB worth = true) : ∃ t ∈ triesB floor l, coinB t = true ∧ gainsW floor l b worth worth ≤ gainsW floor l b worth t := by
  obtain ⟨hfl, hbad, _⟩ := sellE_ok.1 hl
  obtain ⟨p, h⟩ := gains_at hl hb
  have hp := h.pc
  have hcw := coinB_iff.1 hw
  rcases h.win worth worth hw hw with ⟨h1, h2⟩ | ⟨h1, h2⟩
  · by_cases hlt : p < worth
    · rcases h.low with ⟨s, hs, hsp⟩ | ⟨hpf, hg⟩
      · refine ⟨min (s.c + 1) 1099511627776, ?_, coinB_iff.2 (by omega), ?_⟩
        · unfold triesB
          exact List.mem_append_right _ (List.mem_flatMap.2 ⟨s, hs, by simp⟩)
        · have hm : min (s.c + 1) 1099511627776 = p + 1 := by omega
          rw [hm, h1]
          rcases h.win worth (p + 1) hw (coinB_iff.2 (by omega)) with ⟨h3, _⟩ | ⟨_, h4⟩
          · rw [h3]; exact Int.le_refl _
          · exact absurd (by omega) h4
      · exact ⟨floor, by simp [triesB], hfl, by rw [hg worth hw, h1]; exact Int.le_refl _⟩
    · refine ⟨0, by simp [triesB], by decide, ?_⟩
      rcases h.win worth 0 hw (by decide) with ⟨h3, h4⟩ | ⟨h3, _⟩ <;> omega
  · refine ⟨0, by simp [triesB], by decide, ?_⟩
    rcases h.win worth 0 hw (by decide) with ⟨h3, h4⟩ | ⟨h3, _⟩ <;> omega
theorem tries_coin {floor : Int} {l : List Sec} (hl : sellE floor l = 0) : ∀ t ∈ triesB floor l, coinB t = true := by
  obtain ⟨hfl, hbad, _⟩ := sellE_ok.1 hl
  intro t ht
  unfold triesB at ht
  rcases List.mem_append.1 ht with h | h
  · simp at h
    rcases h with rfl | rfl
    · decide
    · exact hfl
  · obtain ⟨s, hs, h⟩ := List.mem_flatMap.1 h
    have hb := hbad s hs
    unfold secBad at hb
    simp at hb
    have hc := coinB_iff.1 hb.2
    simp at h
    rcases h with rfl | rfl
    · exact hb.2
    · exact coinB_iff.2 (by omega)
end Go.Proofs.Ytcigobiolbojhaa.Vb

/- truth.Least; gavelref11.Check, Are. -/
namespace Go.Proofs.Ytcigobiolbojhaa.Vb
open Go.RowKit

def secT (s : Sec) : List Int := [s.c, min (s.c + 1) 1099511627776]
theorem triesB_eq (floor : Int) (l : List Sec) : triesB floor l = [0, floor] ++ l.flatMap secT := rfl
theorem secT_take {floor : Int} {l : List Sec} {k : Nat} {s : Sec} (h : l[k]? = some s) : [0, floor] ++ (l.take (k + 1)).flatMap secT = ([0, floor] ++ (l.take k).flatMap secT) ++ [s.c, min (s.c + 1) 1099511627776] := by
  rw [List.take_add_one, h]
  simp [secT]
set_option maxRecDepth 100000 in
set_option maxHeartbeats 3200000 in
theorem truthLeast_any (floor : Int) (l : List Sec) (b worth : Int) (v : Value) (R : Nat → Prop) (w : World) (hl : Secs w R v l) (hll : l.length ≤ 1000) (hf : -9223372036854775808 ≤ floor ∧ floor ≤ 9223372036854775807)
    (hb : -9223372036854775808 ≤ b ∧ b ≤ 9223372036854775807) (hw : -9223372036854775808 ≤ worth ∧ worth ≤ 9223372036854775807) :
    Calls Try.prog 69 #[.int .i64 floor, v, .int .i64 b, .int .i64 worth] w fun e w' => ∃ L B : Int, e = .returned (.tuple #[.int .i64 L, .int .i64 B, .int .i64 (wrongE floor l b [worth])]) ∧ (wrongE floor l b [worth] = 0 → B = gainsW floor l b worth worth) ∧ Below w.heap.size w w' := by
  have HL := Lib.hid hl
  obtain ⟨⟨_, A, cap, rfl, _⟩, hwf⟩ := id hl
  have HWF := Lib.hid hwf
  clear hl hwf
  have hbd := wrongE_bd floor l b [worth]
  obtain ⟨z, hz⟩ : ∃ z, z = wrongE floor l b [worth] := ⟨_, rfl⟩
  rw [← hz] at hbd
  have HZ := Lib.hid hz
  obtain ⟨P, hP⟩ : ∃ P : Ending → World → Prop, P = fun e w' => ∃ L B : Int, e = .returned (.tuple #[.int .i64 L, .int .i64 B, .int .i64 (wrongE floor l b [worth])]) ∧ (wrongE floor l b [worth] = 0 → B = gainsW floor l b worth worth) ∧ Below w.heap.size w w' := ⟨_, rfl⟩
  rw [← hP]
  have HP := Lib.hid hP
  have hzb : -9223372036854775808 ≤ z ∧ z ≤ 9223372036854775807 := by omega
  clear hz hbd hP
  go_enter Try.func69, Try.ntmps69
  go_wp2_with fail
  refine (wrong_any floor l b [worth] _ _ _ _ _ (HL.out.alloc _) (Sl.new w #[.int .i64 worth] _ 1 1 (by unfold maxLen; omega) rfl)).mono ?_
  rintro e w1 ⟨rfl, hb1⟩
  rw [← HZ.out]
  have HB1 := Lib.hid (((Below.refl _ _).alloc (Nat.le_refl _) _).trans (hb1.mono (B' := w.heap.size) (by simp)))
  clear hb1
  by_cases h0 : z = 0
  · subst h0
    clear hzb
    have hz := HZ.out.symm
    obtain ⟨hse, hb0, hnc⟩ : sellE floor l = 0 ∧ 0 ≤ b ∧ coinB worth = true := by
      unfold wrongE at hz
      split at hz
      · rename_i h1; exact absurd hz h1
      · rename_i h1
        split at hz
        · omega
        · split at hz
          · omega
          · rename_i h2 h3
            refine ⟨by simpa using h1, by omega, ?_⟩
            simpa [notCoin] using h3
    obtain ⟨_, hbad, _⟩ := sellE_ok.1 hse
    have HSE := Lib.hid hse
    have HNC := Lib.hid hnc
    have HBAD := Lib.hid hbad
    clear hz hse hnc hbad
    go_wp2_with fail
    obtain ⟨W2, hW2⟩ : ∃ V, V = w1.alloc (.cells #[.int .i64 0, .int .i64 floor] 2) := ⟨_, rfl⟩
    have HO2 := Lib.hid (show W2.ownsRow w1.heap.size 2 1 (.slice (some ⟨w1.heap.size, 0, none⟩) 2 2) 2 (ints [0, floor]) from by rw [hW2]; exact World.ownsRow_lit w1 #[.int .i64 0, .int .i64 floor] 2 (Nat.le_refl _) (by unfold maxLen; omega) rfl)
    have HB2 := Lib.hid (show Below w1.heap.size w1 W2 from by rw [hW2]; exact (Below.refl _ _).alloc (Nat.le_refl _) _)
    rw [← hW2]
    clear hW2
    go_loopw [12, 33] (fun t i wr => ∃ (k m : Nat) (A' : Option Addr) (cap' : Nat) (zs : List Int), k ≤ l.length ∧ i = .int .i64 k ∧ t = .slice A' m cap' ∧ zs.length = m ∧ m = 2 + 2 * k ∧ zs = [0, floor] ++ (l.take k).flatMap secT ∧ wr.ownsRow w1.heap.size 2 1 (.slice A' m cap') m (ints zs) ∧ Below w1.heap.size w1 wr) (fun _ i _ => l.length - (intOf i).toNat)
    case atStart => exact ⟨0, 2, _, 2, [0, floor], Nat.zero_le _, rfl, rfl, rfl, rfl, rfl, HO2.out, HB2.out⟩
    case round =>
      obtain ⟨k, m, A', cap', zs, hk, rfl, rfl, hzl, hm, hzs, hown, hbr⟩ := hrel
      have HO := Lib.hid hown
      have HBR := Lib.hid hbr
      have HZS := Lib.hid hzs
      have HBW := Lib.hid (HB1.out.trans (hbr.mono HB1.out.size))
      by_cases hlt : k < l.length
      · obtain ⟨s, hs⟩ : ∃ s, l[k]? = some s := ⟨_, List.getElem?_eq_getElem hlt⟩
        obtain ⟨_, A9, cap9, hv9, hn9, hm9, hcs⟩ := (HL.out.grow HBW.out).1
        injection hv9 with hA9 _ hc9
        subst hA9 hc9
        obtain ⟨bq, of, rfl, _, hbq, hcell⟩ := hcs (by omega)
        have q0 : wr.cell? ⟨bq, of + k * 2, none⟩ = some (.int .i64 s.b) := hcell _ _ (Sec.all_fst l k s hs)
        have q1 : wr.cell? ⟨bq, of + (k * 2 + 1), none⟩ = some (.int .i64 s.c) := hcell _ _ (Sec.all_snd l k s hs)
        rw [← Nat.add_assoc] at q1
        have hsb := HBAD.out s (List.mem_of_getElem? hs)
        have hsc : 0 ≤ s.c ∧ s.c ≤ 1099511627776 := by
          unfold secBad at hsb
          simp at hsb
          exact coinB_iff.1 hsb.2
        have hwr : IntKind.i64.wrap (s.c + 1) = s.c + 1 := IntWalk.i64_in _ (by omega)
        have HTK := Lib.hid (secT_take (floor := floor) hs)
        obtain ⟨sb, sc⟩ := s
        simp only at q0 q1 hsc hwr HTK
        have e0 : (0 : Int) ≤ (k : Int) := by omega
        have e1 : (k : Int) < (l.length : Int) := by omega
        have hszr := hbr.size
        clear hown hbr hzs hs hcs hcell hsb
        have HSN := Lib.hid (show Sl ((wr.alloc (.cells #[.int .i64 sb, .int .i64 sc] 148)).alloc (.cells #[.int .i64 sc, .int .i64 (min (sc + 1) 1099511627776)] 2)) (fun x => x = wr.heap.size + 1) (.slice (some ⟨wr.heap.size + 1, 0, none⟩) 2 2) 2 1 [.int .i64 sc, .int .i64 (min (sc + 1) 1099511627776)] from by
          have h := Sl.new (wr.alloc (.cells #[.int .i64 sb, .int .i64 sc] 148)) #[.int .i64 sc, .int .i64 (min (sc + 1) 1099511627776)] 2 2 1 (by unfold maxLen; omega) rfl
          rw [World.size_alloc] at h
          exact h)
        have HM := Lib.hid hm
        have HZL := Lib.hid hzl
        clear hm hzl
        go_wp2_with (at_builtin; go_must (refine wpList_app _ rfl (.tmp 37) (.tmp 44) et_i64 rfl w1.heap.size (.slice A' m cap') m (ints zs) rfl (own_alloc (own_alloc HO.out _) _) _ (.slice (some ⟨wr.heap.size + 1, 0, none⟩) 2 2) 2 [.int .i64 sc, .int .i64 (min (sc + 1) 1099511627776)] rfl HSN.out (by simp [Value.oneCell']) (by have := HM.out; omega) (by have := HM.out; unfold maxLen; omega) (by simp; omega) ?_); intro A2 c2 w2 hown2 hg2 _; have HO3 := Lib.hid hown2; have HG3 := Lib.hid hg2; clear hown2 hg2)
        go_roundw
        case rel =>
          refine ⟨k + 1, m + 2, A2, c2, zs ++ [sc, min (sc + 1) 1099511627776], by omega, by go_num, rfl, by simp [HZL.out], by have := HM.out; omega, by rw [HTK.out, HZS.out], ?_, ?_⟩
          · have := HO3.out
            simpa [ints] using this
          · exact ((HBR.out.alloc HBR.out.size _).alloc (by simp; omega) _).grown HG3.out (by simp; omega) (fun g e => (HO.out.lt g e).1)
        case measure => simp [intOf]; omega
      · obtain rfl : k = l.length := by omega
        rw [List.take_length, ← triesB_eq] at hzs
        have HTS := Lib.hid hzs
        subst hzl
        have HZM := Lib.hid hm
        have hz0 : 0 < zs.length := by omega
        have hz1 : zs.length ≤ 1000000 := by omega
        clear hown hbr hzs hm
        go_wp2_with fail
        refine (sort64_any zs wr HO.out hz0 hz1 HBR.out.size).mono ?_
        rintro e w3 ⟨rfl, ts, hperm, hown3, hb3⟩
        have HSL := Lib.hid (Sl.of_own hown3)
        have HB3 := Lib.hid (HBW.out.trans (hb3.mono HB1.out.size))
        have hcoin : ∀ x ∈ ts, coinB x = true := fun x hx => tries_coin HSE.out x (by rw [← HTS.out]; exact hperm.mem_iff.1 hx)
        have hlen : ts.length = zs.length := hperm.length_eq
        have HCO := Lib.hid hcoin
        have HPM := Lib.hid hperm
        have HLN := Lib.hid hlen
        clear hperm hown3 hb3 hcoin hlen
        go_wp2_with fail
        refine (gains_any floor l b worth 0 _ R w3 (HL.out.grow HB3.out) (by omega) hb (by omega)).mono ?_
        rintro e w4 ⟨rfl, hb4⟩
        obtain ⟨G, hG⟩ : ∃ G : Int → Int, G = gainsW floor l b worth := ⟨_, rfl⟩
        have HSL4 := Lib.hid (HSL.out.grow hb4)
        have HB4 := Lib.hid (HB3.out.trans (hb4.mono HB3.out.size))
        have hg0 : gainsW floor l b worth 0 = G 0 := by rw [hG]
        rw [hg0]
        have HG := Lib.hid hG
        clear hb4 hg0 hG HSL
        go_wp2_with fail
        obtain ⟨wq, hwq⟩ : ∃ z, z = w4 := ⟨_, rfl⟩
        rw [← hwq] at HSL4 HB4 ⊢
        clear hwq
        go_loopw [15, 16, 56] (fun L B i wr => ∃ (k : Nat) (Lz Bz : Int), k ≤ zs.length ∧ i = .int .i64 k ∧ L = .int .i64 Lz ∧ B = .int .i64 Bz ∧ (∃ x, coinB x = true ∧ Bz = G x) ∧ G 0 ≤ Bz ∧ (∀ (j : Nat) (x : Int), j < k → ts[j]? = some x → G x ≤ Bz) ∧ Below wq.heap.size wq wr) (fun _ _ i _ => zs.length - (intOf i).toNat)
        case atStart => exact ⟨0, 0, G 0, Nat.zero_le _, rfl, rfl, rfl, ⟨0, by decide, rfl⟩, Int.le_refl _, fun j x h => absurd h (by omega), Below.refl _ _⟩
        case round =>
          obtain ⟨k, Lz, Bz, hk, rfl, rfl, rfl, hx, h0b, hall, hbr⟩ := hrel
          have HX := Lib.hid hx
          have H0B := Lib.hid h0b
          have HALL := Lib.hid hall
          have HBR2 := Lib.hid hbr
          have HBW2 := Lib.hid (HB4.out.trans (hbr.mono HB4.out.size))
          by_cases hlt : k < zs.length
          · obtain ⟨bq, of, x, hA', hbq, hxt, hcx⟩ := Sl.int_at (l := ts) (HSL4.out.grow hbr) hlt
            have hxc := HCO.out x (List.mem_of_getElem? hxt)
            have hxb := coinB_iff.1 hxc
            have HXT := Lib.hid hxt
            have HXC := Lib.hid hxc
            have e0 : (0 : Int) ≤ (k : Int) := by omega
            have e1 : (k : Int) < (zs.length : Int) := by omega
            subst hA'
            clear hx h0b hall hbr hxt hxc
            go_wp2_with fail
            refine (gains_any floor l b worth x _ R wr (HL.out.grow HBW2.out) (by omega) hb (by omega)).mono ?_
            rintro e w6 ⟨rfl, hb6⟩
            obtain ⟨gx, hgx⟩ : ∃ z, z = G x := ⟨_, rfl⟩
            have hgx2 : gainsW floor l b worth x = gx := by rw [hgx, HG.out]
            rw [hgx2]
            have HGX := Lib.hid hgx
            have HB6 := Lib.hid (HBR2.out.trans (hb6.mono HBR2.out.size))
            clear hb6 hgx hgx2 hcx
            have hstep : ∀ B2, Bz ≤ B2 → gx ≤ B2 → ∀ (j : Nat) (y : Int), j < k + 1 → ts[j]? = some y → G y ≤ B2 := fun B2 h1 h2 j y hj hy => by
              rcases Nat.lt_or_ge j k with h | h
              · have := HALL.out j y h hy
                omega
              · obtain rfl : j = k := by omega
                rw [HXT.out] at hy
                injection hy with hy
                subst hy
                rw [← HGX.out]
                exact h2
            have HST := Lib.hid hstep
            clear hstep
            by_cases hgt : Bz < gx
            · go_wp2_with fail
              go_roundw
              case rel => exact ⟨k + 1, x, gx, by omega, by go_num, rfl, rfl, ⟨x, HXC.out, HGX.out⟩, by have := H0B.out; omega, HST.out gx (by omega) (Int.le_refl _), HB6.out⟩
              case measure => simp [intOf]; omega
            · go_wp2_with fail
              go_roundw
              case rel => exact ⟨k + 1, Lz, Bz, by omega, by go_num, rfl, rfl, HX.out, H0B.out, HST.out Bz (Int.le_refl _) (by omega), HB6.out⟩
              case measure => simp [intOf]; omega
          · obtain rfl : k = zs.length := by omega
            clear hx h0b hall hbr
            have hfin : Bz = gainsW floor l b worth worth := by
              obtain ⟨x, hxc, hxe⟩ := HX.out
              have h1 := (truth_best HSE.out hb0 HNC.out hxc).1
              obtain ⟨t, ht, htc, h2⟩ := tries_best (floor := floor) HSE.out hb0 HNC.out
              rw [← HTS.out] at ht
              obtain ⟨j, hj⟩ := List.mem_iff_getElem?.1 (HPM.out.mem_iff.2 ht)
              have hjl : j < zs.length := by rw [← HLN.out]; exact (List.getElem?_eq_some_iff.1 hj).1
              have h3 := HALL.out j t hjl hj
              rw [HG.out] at h3 hxe
              omega
            have HF := Lib.hid hfin
            clear hfin
            go_wp2_with fail
            rw [HP.out]
            exact bodyPost_ret (v := .tuple #[.int .i64 Lz, .int .i64 Bz, .int .i64 0]) (by simp [results, Try.results69, go_sem]) rfl ⟨Lz, Bz, by rw [← HZ.out], fun _ => HF.out, HBW2.out⟩
  · have hcb : (z != 0) = true := by simpa using h0
    have HN := Lib.hid h0
    clear h0
    go_wp2_with fail
    rw [HP.out]
    exact bodyPost_ret (v := .tuple #[.int .i64 0, .int .i64 0, .int .i64 z]) (by simp [results, Try.results69, go_sem]) rfl ⟨0, 0, by rw [← HZ.out], fun h => absurd (HZ.out.trans h) HN.out, HB1.out⟩

set_option maxHeartbeats 800000 in
theorem refAre_any (x : Int) (w : World) : Calls Try.prog 72 #[.int .i64 x] w fun e w' => e = .returned (.bool (coinB x)) ∧ w = w' := by
  go_enter Try.func72, Try.ntmps72
  by_cases h1 : 0 ≤ x
  · by_cases h2 : x ≤ 1099511627776
    · go_wp2
      go_ret
      exact ⟨by simp [coinB, h1, h2], rfl⟩
    · go_wp2
      go_ret
      exact ⟨by simp [coinB, h1, h2], rfl⟩
  · go_wp2
    go_ret
    exact ⟨by simp [coinB]; omega, rfl⟩
end Go.Proofs.Ytcigobiolbojhaa.Vb

/- gavelref11.Check. -/
namespace Go.Proofs.Ytcigobiolbojhaa.Vb
open Go.RowKit

theorem nodup_of {l : List Sec} (h : ∀ (i j : Nat) (a b : Sec), i < j → l[i]? = some a → l[j]? = some b → a.b ≠ b.b) : (l.map (·.b)).Nodup := by
  rw [List.Nodup, List.pairwise_map, List.pairwise_iff_getElem]
  intro i j hi hj hij
  exact h i j _ _ hij (List.getElem?_eq_getElem hi) (List.getElem?_eq_getElem hj)
theorem nodup_no {l : List Sec} {i j : Nat} {a b : Sec} (hij : i < j) (ha : l[i]? = some a) (hb : l[j]? = some b) (he : a.b = b.b) : ¬ (l.map (·.b)).Nodup := fun h => by
  rw [List.Nodup, List.pairwise_map, List.pairwise_iff_getElem] at h
  have hi := (List.getElem?_eq_some_iff.1 ha).1
  have hj := (List.getElem?_eq_some_iff.1 hb).1
  have := h i j hi hj hij
  rw [List.getElem?_eq_getElem hi] at ha
  rw [List.getElem?_eq_getElem hj] at hb
  injection ha with ha
  injection hb with hb
  rw [ha, hb] at this
  exact this he
theorem Secs.at_ {w : World} {R : Nat → Prop} {A : Option Addr} {c : Nat} {l : List Sec} (h : Secs w R (.slice A l.length c) l) {k : Nat} {s : Sec} (hs : l[k]? = some s) :
    ∃ b o, A = some ⟨b, o, none⟩ ∧ b < w.heap.size ∧ w.cell? ⟨b, o + k * 2, none⟩ = some (.int .i64 s.b) ∧ w.cell? ⟨b, o + k * 2 + 1, none⟩ = some (.int .i64 s.c) := by
  have hk := (List.getElem?_eq_some_iff.1 hs).1
  obtain ⟨_, A9, cap9, hv9, _, _, hcs⟩ := h.1
  injection hv9 with hA9 _ _
  subst hA9
  obtain ⟨b, o, h1, _, h2, h3⟩ := hcs (by omega)
  exact ⟨b, o, h1, h2, h3 _ _ (Sec.all_fst l k s hs), by have := h3 _ _ (Sec.all_snd l k s hs); rwa [← Nat.add_assoc] at this⟩

set_option maxRecDepth 100000 in
set_option maxHeartbeats 3200000 in
theorem refCheck11_any (floor : Int) (l : List Sec) (v : Value) (R : Nat → Prop) (w : World) (hl : Secs w R v l) (hll : l.length ≤ 1000000) :
    Calls Try.prog 71 #[.int .i64 floor, v] w fun e w' => e = .returned (.int .i64 (sellE floor l)) ∧ Below w.heap.size w w' := by
  have HL := Lib.hid hl
  obtain ⟨⟨_, A, cap, rfl, _⟩, _⟩ := id hl
  clear hl
  obtain ⟨ans, hans⟩ : ∃ a, a = sellE floor l := ⟨_, rfl⟩
  rw [← hans]
  have HAN := Lib.hid hans
  clear hans
  go_enter Try.func71, Try.ntmps71
  go_wp2_with fail
  refine (refAre_any floor w).mono ?_
  rintro e _ ⟨rfl, rfl⟩
  obtain ⟨cf, hcf⟩ : ∃ a, a = coinB floor := ⟨_, rfl⟩
  rw [← hcf]
  have HCF := Lib.hid hcf
  clear hcf
  cases cf with
  | false =>
    have HA := Lib.hid (show ans = 2 from by rw [HAN.out]; unfold sellE sellBad; rw [← HCF.out]; simp)
    go_wp2_with fail
    go_ret
    exact ⟨by rw [HA.out]; rfl, Below.refl _ _⟩
  | true =>
    go_wp2_with fail
    go_loopw [5] (fun i wr => ∃ k : Nat, k ≤ l.length ∧ i = .int .i64 k ∧ (∀ (j : Nat) (s : Sec), j < k → l[j]? = some s → secBad s = false) ∧ wr = w) (fun i _ => l.length - (intOf i).toNat)
    case atStart => exact ⟨0, Nat.zero_le _, rfl, fun j s h => absurd h (by omega), rfl⟩
    case round =>
      obtain ⟨k, hk, rfl, hno, rfl⟩ := hrel
      have HN := Lib.hid hno
      clear hno
      by_cases hlt : k < l.length
      · obtain ⟨s, hs⟩ : ∃ s, l[k]? = some s := ⟨_, List.getElem?_eq_getElem hlt⟩
        obtain ⟨bq, of, rfl, hbq, q0, q1⟩ := HL.out.at_ hs
        have HS := Lib.hid hs
        obtain ⟨sb, sc⟩ := s
        simp only at q0 q1
        have e0 : (0 : Int) ≤ (k : Int) := by omega
        have e1 : (k : Int) < (l.length : Int) := by omega
        have hbadA : secBad ⟨sb, sc⟩ = true → ans = 2 := fun hb => by
          rw [HAN.out]
          unfold sellE sellBad
          rw [if_pos (by
            have : l.any secBad = true := List.any_eq_true.2 ⟨_, List.mem_of_getElem? HS.out, hb⟩
            simp [this])]
        have HBA := Lib.hid hbadA
        clear hs hbadA
        by_cases hb0 : sb < 0
        · have HA := Lib.hid (HBA.out (by simp [secBad, hb0]))
          go_wp2_with fail
          go_ret
          exact ⟨by rw [HA.out]; rfl, Below.refl _ _⟩
        · go_wp2_with fail
          refine (refAre_any sc wr).mono ?_
          rintro e _ ⟨rfl, rfl⟩
          obtain ⟨cs, hcs⟩ : ∃ a, a = coinB sc := ⟨_, rfl⟩
          rw [← hcs]
          have HCS := Lib.hid hcs
          clear hcs
          cases cs with
          | false =>
            have HA := Lib.hid (HBA.out (by simp [secBad, ← HCS.out]))
            go_wp2_with fail
            go_ret
            exact ⟨by rw [HA.out]; rfl, Below.refl _ _⟩
          | true =>
            go_wp2_with fail
            go_roundw
            case rel =>
              refine ⟨k + 1, by omega, by go_num, fun j x hj hx => ?_, trivial⟩
              rcases Nat.lt_or_ge j k with h | h
              · exact HN.out j x h hx
              · obtain rfl : j = k := by omega
                rw [HS.out] at hx
                injection hx with hx
                rw [← hx]
                simp [secBad, ← HCS.out]
                omega
            case measure => simp [intOf]; omega
      · obtain rfl : k = l.length := by omega
        have hbad : sellBad floor l = false := by
          unfold sellBad
          rw [← HCF.out]
          simp only [Bool.not_true, Bool.false_or, List.any_eq_false]
          intro x hx
          obtain ⟨j, hj⟩ := List.mem_iff_getElem?.1 hx
          simpa using HN.out j x (List.getElem?_eq_some_iff.1 hj).1 hj
        have HAN2 := Lib.hid (show ans = if (l.map (·.b)).Nodup then 0 else 5 from by rw [HAN.out]; unfold sellE; rw [if_neg (by simp [hbad])])
        clear hbad
        go_wp2_with fail
        go_loopw [6] (fun i wz => ∃ k : Nat, k ≤ l.length ∧ i = .int .i64 k ∧ (∀ (i j : Nat) (a b : Sec), i < j → j < k → l[i]? = some a → l[j]? = some b → a.b ≠ b.b) ∧ Below wr.heap.size wr wz) (fun i _ => l.length - (intOf i).toNat)
        case atStart => exact ⟨0, Nat.zero_le _, rfl, fun i j a b _ h => absurd h (by omega), Below.refl _ _⟩
        case round =>
          obtain ⟨k, hk, rfl, hno, hbr⟩ := hrel
          have HNO := Lib.hid hno
          have HBR := Lib.hid hbr
          clear hno hbr
          by_cases hlt : k < l.length
          · obtain ⟨s, hs⟩ : ∃ s, l[k]? = some s := ⟨_, List.getElem?_eq_getElem hlt⟩
            have HS := Lib.hid hs
            clear hs
            go_wp2_with fail
            obtain ⟨wi, hwi⟩ : ∃ z, z = wr := ⟨_, rfl⟩
            rw [← hwi] at HBR ⊢
            clear hwi
            go_loopw [7] (fun i wz => ∃ q : Nat, q ≤ k ∧ i = .int .i64 q ∧ (∀ (j : Nat) (a : Sec), j < q → l[j]? = some a → a.b ≠ s.b) ∧ Below wi.heap.size wi wz) (fun i _ => k - (intOf i).toNat)
            case atStart => exact ⟨0, Nat.zero_le _, rfl, fun j a h => absurd h (by omega), Below.refl _ _⟩
            case round =>
              obtain ⟨q, hq, rfl, hnq, hbz⟩ := hrel
              have HNQ := Lib.hid hnq
              have HBZ := Lib.hid hbz
              have HBB := Lib.hid (HBR.out.trans (hbz.mono HBR.out.size))
              clear hnq hbz
              by_cases hqk : q < k
              · obtain ⟨t, ht⟩ : ∃ t, l[q]? = some t := ⟨_, List.getElem?_eq_getElem (by omega)⟩
                obtain ⟨bq, of, hA1, hbq, q0, _⟩ := (HL.out.grow HBB.out).at_ HS.out
                obtain ⟨bq2, of2, hA2, _, t0, _⟩ := (HL.out.grow HBB.out).at_ ht
                rw [hA1] at hA2
                injection hA2 with hA2
                injection hA2 with eA eB
                subst eA eB hA1
                have HTT := Lib.hid ht
                obtain ⟨sb, sc⟩ := s
                obtain ⟨tb, tc⟩ := t
                simp only at q0 t0 HNQ
                have e0 : (0 : Int) ≤ (k : Int) := by omega
                have e1 : (k : Int) < (l.length : Int) := by omega
                have e2 : (0 : Int) ≤ (q : Int) := by omega
                have e3 : (q : Int) < (l.length : Int) := by omega
                have e4 : (q : Int) < (k : Int) := by omega
                clear ht
                by_cases heq : tb = sb
                · subst heq
                  have HA := Lib.hid (show ans = 5 from by rw [HAN2.out, if_neg (nodup_no hqk HTT.out HS.out rfl)])
                  go_wp2_with fail
                  go_quiet (fail)
                  go_wp2_with fail
                  go_ret
                  exact ⟨by rw [HA.out]; rfl, below_drewN HBB.out _⟩
                · have heb : (tb == sb) = false := by simpa using heq
                  have HEQ := Lib.hid heq
                  clear heq
                  go_wp2_with fail
                  go_quiet (fail)
                  go_wp2_with fail
                  go_roundw
                  case rel =>
                    refine ⟨q + 1, by omega, by go_num, fun j x hj hx => ?_, below_drewN HBZ.out _⟩
                    rcases Nat.lt_or_ge j q with h | h
                    · exact HNQ.out j x h hx
                    · obtain rfl : j = q := by omega
                      rw [HTT.out] at hx
                      injection hx with hx
                      rw [← hx]
                      exact HEQ.out
                  case measure => simp [intOf]; omega
              · obtain rfl : q = k := by omega
                go_wp2_with fail
                go_roundw
                case rel =>
                  refine ⟨q + 1, by omega, by go_num, fun i j a b hij hj ha hb => ?_, HBB.out⟩
                  rcases Nat.lt_or_ge j q with h | h
                  · exact HNO.out i j a b hij h ha hb
                  · obtain rfl : j = q := by omega
                    rw [HS.out] at hb
                    injection hb with hb
                    rw [← hb]
                    exact HNQ.out i a hij ha
                case measure => simp [intOf]; omega
          · obtain rfl : k = l.length := by omega
            have HA := Lib.hid (show ans = 0 from by rw [HAN2.out, if_pos (nodup_of fun i j a b hij ha hb => HNO.out i j a b hij (List.getElem?_eq_some_iff.1 hb).1 ha hb)])
            go_wp2_with fail
            go_ret
            exact ⟨by rw [HA.out]; rfl, HBR.out⟩
end Go.Proofs.Ytcigobiolbojhaa.Vb

/- Law 29's own: three, works: the numbers. -/
namespace Go.Proofs.Ytcigobiolbojhaa.Vb
open Go.RowKit

def bs29 : List (List Off) := [[⟨1, 10⟩], [⟨2, 10⟩], [⟨3, 10⟩]]

theorem three_buys29 {w : World} {g g1 g2 g3 : Nat} {t u : TypeId} (h1 : Blk w g1 t #[.int .u32 1, .int .i64 10]) (h2 : Blk w g2 t #[.int .u32 2, .int .i64 10]) (h3 : Blk w g3 t #[.int .u32 3, .int .i64 10])
    (h : Blk w g u #[.slice (some ⟨g1, 0, none⟩) 1 1, .slice (some ⟨g2, 0, none⟩) 1 1, .slice (some ⟨g3, 0, none⟩) 1 1]) : Buys w (fun _ => True) (.slice (some ⟨g, 0, none⟩) 3 3) bs29 := by
  refine ⟨_, Sl.blk (sz := 1) h (by omega) (by unfold maxLen; omega) rfl, fun k l hk => ?_⟩
  rcases k with _ | _ | _ | k
  · obtain rfl : [⟨1, 10⟩] = l := by simpa [bs29] using hk
    exact ⟨_, rfl, Sl.blk (sz := 2) h1 (by omega) (by unfold maxLen; omega) rfl, fun o ho => by simp at ho; subst ho; simp [Off.wf]⟩
  · obtain rfl : [⟨2, 10⟩] = l := by simpa [bs29] using hk
    exact ⟨_, rfl, Sl.blk (sz := 2) h2 (by omega) (by unfold maxLen; omega) rfl, fun o ho => by simp at ho; subst ho; simp [Off.wf]⟩
  · obtain rfl : [⟨3, 10⟩] = l := by simpa [bs29] using hk
    exact ⟨_, rfl, Sl.blk (sz := 2) h3 (by omega) (by unfold maxLen; omega) rfl, fun o ho => by simp at ho; subst ho; simp [Off.wf]⟩
  · simp [bs29] at hk

set_option maxHeartbeats 800000 in
theorem three29_any (w : World) :
    Calls Try.prog 106 #[] w fun e w' => ∃ A cap, e = .returned (.agg #[.int .i64 2, .slice A 3 cap]) ∧ Buys w' (fun _ => True) (.slice A 3 cap) bs29 ∧ Below w.heap.size w w' := by
  go_enter Try.func106, Try.ntmps106
  go_wp2
  refine bodyPost_ret (v := .agg #[.int .i64 2, .slice (some ⟨w.heap.size + 1 + 1 + 1 + 1, 0, none⟩) 3 3]) (by simp [results, Try.results106, go_sem]) rfl ⟨_, _, rfl, three_buys29 (((Blk.new' _ _ (by simp)).alloc _).alloc _ |>.alloc _) (((Blk.new' _ _ (by simp)).alloc _).alloc _) ((Blk.new' _ _ (by simp)).alloc _) (Blk.new' _ _ (by simp)), ?_⟩
  exact (((((Below.refl _ _).alloc (Nat.le_refl _) _).alloc (by simp) _).alloc (by simp; omega) _).alloc (by simp; omega) _).alloc (by simp; omega) _

theorem bs29_a1 : askedE 2 bs29 1 2 [[⟨2, 10⟩], [⟨2, 3⟩]] = 0 := by decide
theorem bs29_a2 : askedE 2 bs29 1 1 ([⟨2, 10⟩] :: [[⟨2, 3⟩]]) = 0 := by decide
theorem bs29_b1 : byV 2 bs29 1 2 [⟨2, 10⟩] [⟨2, 10⟩] = 0 := by decide +kernel
theorem bs29_b2 : byV 2 bs29 1 2 [⟨2, 10⟩] [⟨2, 3⟩] = 7 := by decide +kernel
theorem bs29_c1 : byV 2 bs29 1 1 [⟨2, 10⟩] [⟨2, 10⟩] = 10 := by decide +kernel
theorem bs29_c2 : byV 2 bs29 1 1 [⟨2, 10⟩] [⟨2, 3⟩] = 10 := by decide +kernel
theorem pack29 : packV 2 bs29 1 2 [⟨2, 10⟩] [⟨2, 3⟩] = .tuple #[.int .i64 0, .int .i64 7, .int .i64 0] := by
  unfold packV
  rw [if_pos bs29_a1, show (1 : Int).toNat = 1 from rfl, bs29_b1, bs29_b2]
theorem regret29 : regretV 2 bs29 1 1 [⟨2, 10⟩] [[⟨2, 3⟩]] = .tuple #[.int .i64 0, .int .i64 (-1), .int .i64 0] := by
  unfold regretV
  rw [if_pos bs29_a2, show (1 : Int).toNat = 1 from rfl]
  simp only [gainsZ, List.mapIdx_cons, List.mapIdx_nil, bs29_c1, bs29_c2]
  have hb : bestZ 10 [(((0 : Nat) : Int), 10)] = (10, -1) := by decide
  have hw : wrap64 (10 - 10) = 0 := (IntWalk.wrap64_in (10 - 10) (by omega)).trans (by decide)
  rw [hb, hw]

theorem num29_any (n : Int) (h0 : 0 ≤ n) (h1 : n ≤ 1000) (w : World) : Calls Try.prog 70 #[.int .i64 n] w fun e w' => e = .returned (.int .i64 n) ∧ w = w' := by
  have hc : IntKind.i64.wrap n = n := IntWalk.i64_in _ (by omega)
  go_enter Try.func70, Try.ntmps70
  go_wp2
  go_ret
  exact ⟨rfl, rfl⟩

set_option maxRecDepth 100000 in
set_option maxHeartbeats 1600000 in
theorem works29_any (w : World) : Calls Try.prog 59 #[] w fun e w' => e = .returned (.bool true) ∧ Below w.heap.size w w' := by
  go_enter Try.func59, Try.ntmps59
  go_wp2_with fail
  have hsec : Secs (w.alloc (.cells #[.int .i64 1, .int .i64 7] 148)) (fun _ => True) (.slice (some ⟨w.heap.size, 0, none⟩) 1 1) [⟨1, 7⟩] := ⟨Sl.blk (sz := 2) (Blk.new w _ _) (by omega) (by unfold maxLen; omega) rfl, fun o ho => by simp at ho; subst ho; simp [Sec.wf]⟩
  refine (sealed_any 0 [⟨1, 7⟩] 0 9 6 _ _ _ hsec (by simp) (by omega) (by omega) (by omega)).mono ?_
  rintro e w1 ⟨rfl, hb1⟩
  rw [sealed7]
  have HB1 := Lib.hid (((Below.refl w.heap.size w).alloc (Nat.le_refl _) (.cells #[.int .i64 1, .int .i64 7] 148)).trans (hb1.mono (by simp)))
  clear hb1 hsec
  go_wp2_with fail
  refine (three29_any w1).mono ?_
  rintro e w2 ⟨A2, c2, rfl, ht2, hb2⟩
  have HT2 := Lib.hid ht2
  have HB2 := Lib.hid (HB1.out.trans (hb2.mono HB1.out.size))
  clear ht2 hb2
  go_wp2_with fail
  have ho1 : Offs ((w2.alloc (.cells #[.int .u32 2, .int .i64 10] 45)).alloc (.cells #[.int .u32 2, .int .i64 3] 45)) (fun _ => True) (.slice (some ⟨w2.heap.size, 0, none⟩) 1 1) [⟨2, 10⟩] := ⟨Sl.blk (sz := 2) ((Blk.new' _ _ rfl).alloc _) (by omega) (by unfold maxLen; omega) rfl, fun o ho => by simp at ho; subst ho; simp [Off.wf]⟩
  have ho2 : Offs ((w2.alloc (.cells #[.int .u32 2, .int .i64 10] 45)).alloc (.cells #[.int .u32 2, .int .i64 3] 45)) (fun _ => True) (.slice (some ⟨w2.heap.size + 1, 0, none⟩) 1 1) [⟨2, 3⟩] := ⟨Sl.blk (sz := 2) (Blk.new' _ _ (by simp)) (by omega) (by unfold maxLen; omega) rfl, fun o ho => by simp at ho; subst ho; simp [Off.wf]⟩
  refine (package_any 2 bs29 1 2 [⟨2, 10⟩] [⟨2, 3⟩] _ _ _ (fun _ => True) (fun _ => True) (fun _ => True) ((w2.alloc (.cells #[.int .u32 2, .int .i64 10] 45)).alloc (.cells #[.int .u32 2, .int .i64 3] 45)) ((HT2.out.alloc _).alloc _) ho1 ho2 (by omega) (by omega)).mono ?_
  rintro e w3 ⟨rfl, hb3⟩
  rw [pack29]
  have HB3 := Lib.hid (((HB2.out.alloc HB2.out.size (.cells #[.int .u32 2, .int .i64 10] 45)).alloc (by have := HB2.out.size; simp; omega) (.cells #[.int .u32 2, .int .i64 3] 45)).trans (hb3.mono (by have := HB2.out.size; simp; omega)))
  clear hb3 ho1 ho2 HT2
  go_wp2_with fail
  refine (three29_any w3).mono ?_
  rintro e w4 ⟨A4, c4, rfl, ht4, hb4⟩
  have HT4 := Lib.hid ht4
  have HB4 := Lib.hid (HB3.out.trans (hb4.mono HB3.out.size))
  clear ht4 hb4
  go_wp2_with fail
  have ho1 : Offs (((w4.alloc (.cells #[.int .u32 2, .int .i64 10] 45)).alloc (.cells #[.int .u32 2, .int .i64 3] 45)).alloc (.cells #[.slice (some ⟨w4.heap.size + 1, 0, none⟩) 1 1] 41)) (fun _ => True) (.slice (some ⟨w4.heap.size, 0, none⟩) 1 1) [⟨2, 10⟩] := ⟨Sl.blk (sz := 2) (((Blk.new' _ _ rfl).alloc _).alloc _) (by omega) (by unfold maxLen; omega) rfl, fun o ho => by simp at ho; subst ho; simp [Off.wf]⟩
  have ho2 : Offs ((w4.alloc (.cells #[.int .u32 2, .int .i64 10] 45)).alloc (.cells #[.int .u32 2, .int .i64 3] 45)) (fun _ => True) (.slice (some ⟨w4.heap.size + 1, 0, none⟩) 1 1) [⟨2, 3⟩] := ⟨Sl.blk (sz := 2) (Blk.new' _ _ (by simp)) (by omega) (by unfold maxLen; omega) rfl, fun o ho => by simp at ho; subst ho; simp [Off.wf]⟩
  have ho3 := Buys.one ho2 41
  rw [World.size_alloc, World.size_alloc] at ho3
  refine (regret_any 2 bs29 1 1 [⟨2, 10⟩] [[⟨2, 3⟩]] _ _ _ (fun _ => True) (fun _ => True) (fun _ => True) (((w4.alloc (.cells #[.int .u32 2, .int .i64 10] 45)).alloc (.cells #[.int .u32 2, .int .i64 3] 45)).alloc (.cells #[.slice (some ⟨w4.heap.size + 1, 0, none⟩) 1 1] 41)) (((HT4.out.alloc _).alloc _).alloc _) ho1 ho3 (by simp) (by omega) (by omega)).mono ?_
  rintro e w5 ⟨rfl, hb5⟩
  rw [regret29]
  have HB5 := Lib.hid ((((HB4.out.alloc HB4.out.size (.cells #[.int .u32 2, .int .i64 10] 45)).alloc (by have := HB4.out.size; simp; omega) (.cells #[.int .u32 2, .int .i64 3] 45)).alloc (by have := HB4.out.size; simp; omega) (.cells #[.slice (some ⟨w4.heap.size + 1, 0, none⟩) 1 1] 41)).trans (hb5.mono (by have := HB4.out.size; simp; omega)))
  clear hb5 ho1 ho2 ho3 HT4
  go_wp2_with (go_at_call 70; refine (num29_any 0 (by decide) (by decide) _).mono ?_; rintro e w9 ⟨rfl, rfl⟩)
  go_ret
  exact ⟨rfl, HB5.out⟩
end Go.Proofs.Ytcigobiolbojhaa.Vb

/- Lowered lists, by any coins, of any offers. -/
namespace Go.Proofs.Ytcigobiolbojhaa.Vb
open Go.RowKit

end Go.Proofs.Ytcigobiolbojhaa.Vb

/- truth.Shades, the reference's; law 29's own: offers, stays. -/
namespace Go.Proofs.Ytcigobiolbojhaa.Vb
open Go.RowKit

def shL (tr : List Off) (by_ : List Int) : List (List Off) := by_.map fun c => lowL (max c 0) tr
theorem OffOwn.offs {w : World} {lo n cap : Nat} {A : Option Addr} {l : List Off} (h : w.ownsRow lo 45 2 (.slice A n cap) n (Off.all l)) (hn : l.length = n) (hwf : ∀ o ∈ l, o.wf) : Offs w (lo ≤ ·) (.slice A n cap) l := by
  subst hn
  exact ⟨Sl.own_from h, hwf⟩

/-- offers in memory of their own, with a mark behind -/
def LentO (w : World) (lo g c : Nat) (l : List Off) : Prop := w.ownsRow lo 45 2 (.slice (some ⟨g, 0, none⟩) (l.length + 1) c) (l.length + 1) (Off.all (l ++ [⟨77, -77⟩])) ∧ ∀ o ∈ l, o.wf
theorem LentO.grow {w w' : World} {lo g c : Nat} {l : List Off} (h : LentO w lo g c l) (hb : Below w.heap.size w w') : LentO w' lo g c l := ⟨own_grow h.1 hb, h.2⟩
theorem LentO.offs {w : World} {lo g c : Nat} {l : List Off} (h : LentO w lo g c l) : Offs w (lo ≤ ·) (.slice (some ⟨g, 0, none⟩) l.length c) l := by
  obtain ⟨h, hwf⟩ := h
  obtain ⟨hlen, A', c', hv, hnc, hcm, hcs⟩ := Sl.own_from h
  injection hv with hA _ hc
  subst hA hc
  obtain ⟨b, off, hA, hR, hlt, hc⟩ := hcs (by omega)
  injection hA with hA
  injection hA with hb ho
  subst hb ho
  exact ⟨⟨by rw [Off.all_length], _, _, rfl, by omega, hcm, fun _ => ⟨g, 0, rfl, hR, hlt, fun j u hu => hc j u (by
    rw [show Off.all (l ++ [⟨77, -77⟩]) = Off.all l ++ [.int .u32 77, .int .i64 (-77)] by simp [Off.all, Off.cells]]
    rw [List.getElem?_append_left (List.getElem?_eq_some_iff.1 hu).1]
    exact hu)⟩⟩, hwf⟩
end Go.Proofs.Ytcigobiolbojhaa.Vb

/- truth.Shades: each list in memory of its own. -/
namespace Go.Proofs.Ytcigobiolbojhaa.Vb
open Go.RowKit

def SepRows (w : World) (lo : Nat) (vs : List Value) (bs : List (List Off)) : Prop :=
  (∀ (k : Nat) (l : List Off), bs[k]? = some l → ∃ A c, vs[k]? = some (.slice A l.length c) ∧ w.ownsRow lo 45 2 (.slice A l.length c) l.length (Off.all l) ∧ ∀ o ∈ l, o.wf) ∧
  ∀ (i j : Nat) (u u' : Value) (g : Nat), i ≠ j → vs[i]? = some u → vs[j]? = some u' → u.ownBlock = some g → u'.ownBlock ≠ some g
/-- lists in memory of their own, each apart -/
def SepBuys (w : World) (lo : Nat) (v : Value) (bs : List (List Off)) : Prop := ∃ vs, w.ownsRow lo 41 1 v bs.length vs ∧ SepRows w lo vs bs
theorem SepBuys.nil (w : World) (lo : Nat) : SepBuys w lo (.slice none 0 0) [] := ⟨[], World.ownsRow_nil _ _ _ _, fun k l hk => by simp at hk, fun i j u u' g _ h => by simp at h⟩
theorem SepRows.grow {w w' : World} {lo : Nat} {vs : List Value} {bs : List (List Off)} (h : SepRows w lo vs bs) (hb : Below w.heap.size w w') : SepRows w' lo vs bs :=
  ⟨fun k l hk => let ⟨A, c, h1, h2, h3⟩ := h.1 k l hk; ⟨A, c, h1, own_grow h2 hb, h3⟩, h.2⟩
theorem SepBuys.grow {w w' : World} {lo : Nat} {v : Value} {bs : List (List Off)} (h : SepBuys w lo v bs) (hb : Below w.heap.size w w') : SepBuys w' lo v bs := by
  obtain ⟨vs, h1, h2⟩ := h
  exact ⟨vs, own_grow h1 hb, h2.grow hb⟩
theorem SepBuys.buys {w : World} {lo : Nat} {v : Value} {bs : List (List Off)} (h : SepBuys w lo v bs) : Buys w (lo ≤ ·) v bs := by
  obtain ⟨vs, hs, ho, _⟩ := h
  exact ⟨vs, Sl.own_from hs, fun k l hk => let ⟨A, c, h1, h2, h3⟩ := ho k l hk; ⟨_, h1, Sl.own_from h2, h3⟩⟩
/-- One list more. -/
theorem SepBuys.snoc {w w' : World} {lo B : Nat} {v : Value} {bs : List (List Off)} {vs : List Value} {l : List Off} {A A' : Option Addr} {c cap' n : Nat} (hn : bs.length = n)
    (hs : w.ownsRow lo 41 1 v n vs) (hr : SepRows w lo vs bs) (hB : ∀ (k : Nat) (u : Value) (g : Nat), vs[k]? = some u → u.ownBlock = some g → g < B) (hlo : lo ≤ B)
    (hl : w.ownsRow B 45 2 (.slice A l.length c) l.length (Off.all l)) (hw : ∀ o ∈ l, o.wf)
    (hown : w'.ownsRow lo 41 1 (.slice A' (n + 1) cap') (n + 1) (vs ++ [.slice A l.length c])) (hg : w.grownBy w' v.ownBlock) : SepBuys w' lo (.slice A' (n + 1) cap') (bs ++ [l]) := by
  subst hn
  have hlen : vs.length = bs.length := by simpa using hs.1
  have step : ∀ {lo2 : Nat} {u : Value} {m : Nat} {xs : List Value}, w.ownsRow lo2 45 2 u m xs → w'.ownsRow lo2 45 2 u m xs := fun h => own_far h hg fun g e => own_ne hs h (by decide) e
  refine ⟨vs ++ [.slice A l.length c], by simpa using hown, fun k l' hk => ?_, fun i j u u' g hij hi hj hu => ?_⟩
  · by_cases hkl : k < bs.length
    · rw [List.getElem?_append_left hkl] at hk
      obtain ⟨b', c', h1, h2, h3⟩ := hr.1 k l' hk
      exact ⟨b', c', by rw [List.getElem?_append_left (by omega)]; exact h1, step h2, h3⟩
    · have : k = bs.length := by
        rcases Nat.lt_or_ge k (bs ++ [l]).length with h | h
        · simp at h; omega
        · rw [List.getElem?_eq_none h] at hk; cases hk
      subst this
      simp at hk
      subst hk
      exact ⟨A, c, by rw [← hlen]; simp, own_mono (step hl) hlo, hw⟩
  · have key : ∀ (k : Nat) (x : Value), (vs ++ [Value.slice A l.length c])[k]? = some x → (k < vs.length ∧ vs[k]? = some x) ∨ (k = vs.length ∧ x = .slice A l.length c) := by
      intro k x hx
      rcases Nat.lt_or_ge k vs.length with h | h
      · rw [List.getElem?_append_left h] at hx
        exact .inl ⟨h, hx⟩
      · rw [List.getElem?_append_right h] at hx
        have hk : k - vs.length = 0 := by
          rcases Nat.eq_zero_or_pos (k - vs.length) with h0 | h0
          · exact h0
          · rw [List.getElem?_eq_none (by simp; omega)] at hx; cases hx
        rw [hk] at hx
        simp at hx
        exact .inr ⟨by omega, hx.symm⟩
    intro hu'
    rcases key i u hi with ⟨h1, h2⟩ | ⟨h1, rfl⟩
    · rcases key j u' hj with ⟨h3, h4⟩ | ⟨h3, rfl⟩
      · exact hr.2 i j u u' g hij h2 h4 hu hu'
      · have a := hB i u g h2 hu
        have b := (hl.lt g hu').1
        omega
    · rcases key j u' hj with ⟨h3, h4⟩ | ⟨h3, rfl⟩
      · have a := hB j u' g h4 hu'
        have b := (hl.lt g hu).1
        omega
      · omega
theorem SepRows.lt {w : World} {lo : Nat} {vs : List Value} {bs : List (List Off)} (h : SepRows w lo vs bs) (hl : vs.length = bs.length) : ∀ (k : Nat) (u : Value) (g : Nat), vs[k]? = some u → u.ownBlock = some g → lo ≤ g ∧ g < w.heap.size := by
  intro k u g hu hg
  have hk : k < bs.length := by rw [← hl]; exact (List.getElem?_eq_some_iff.1 hu).1
  obtain ⟨A, c, h1, h2, _⟩ := h.1 k _ (List.getElem?_eq_getElem hk)
  rw [hu] at h1
  injection h1 with h1
  subst h1
  exact h2.lt g hg

end Go.Proofs.Ytcigobiolbojhaa.Vb

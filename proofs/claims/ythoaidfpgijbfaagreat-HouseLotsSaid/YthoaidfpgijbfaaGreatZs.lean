import Derived.Test.YthoaidfpgijbfaaGreatZk
import Derived.Test.YthoaidfpgijbfaaGreatZy
import Derived.Test.YthoaidfpgijbfaaGreatZn
import Derived.Test.YthoaidfpgijbfaaGreatZu
import Derived.Test.YthoaidfpgijbfaaGreatZl
import Derived.Test.YthoaidfpgijbfaaGreatZj
import Derived.Test.YthoaidfpgijbfaaGreatZi
import Derived.Test.YthoaidfpgijbfaaGreatZo
import Derived.Test.YthoaidfpgijbfaaGreatZq
import Derived.Test.YthoaidfpgijbfaaGreatZp
namespace Go.Proofs.YthoaidfpgijbfaaGreat.Ho
open Go.RowKit
open Go.Proofs.YthoaidfpgijbfaaGreat.Vb Go.Proofs.YthoaidfpgijbfaaGreat.Ac
def sAnn : ByteArray := { data := #[97, 110, 110] }
def sBob : ByteArray := { data := #[98, 111, 98] }
def sNil : ByteArray := { data := #[] }
def kP : LotR := ⟨3, 0, 10, 0, 0, 0, 0, 5, 0, 0, 0⟩
def kO0 : OrderR := ⟨1, sAnn, 100, 0, 0, zeroLot, [], 0⟩
def kO1 : OrderR := ⟨1, sBob, 100, 0, 0, zeroLot, [], 0⟩
def kO2 : OrderR := ⟨3, sNil, 0, 0, 0, kP, [], 0⟩
def kO3 : OrderR := ⟨4, sNil, 0, 0, 0, zeroLot, [⟨0, 60⟩], 0⟩
def kO4 : OrderR := ⟨4, sNil, 0, 1, 0, zeroLot, [⟨0, 40⟩], 0⟩
def kO5 : OrderR := ⟨4, sNil, 0, 0, 0, zeroLot, [⟨0, 101⟩], 0⟩
def kO6 : OrderR := ⟨6, sNil, 0, 0, 0, zeroLot, [], 10⟩
def kOs : List OrderR := [kO0, kO1, kO2, kO3, kO4, kO5, kO6]
def kAns : List AnsR := [⟨0, 0, 0⟩, ⟨1, 0, 1⟩, ⟨2, 0, 0⟩, ⟨3, 0, 0⟩, ⟨4, 0, 0⟩, ⟨0, 8, 0⟩, ⟨5, 0, 1⟩]
def kL (ss : List Stand) : LotS := ⟨kP, 10, false, ss, ⟨-1, 0, 0, 10⟩, 0⟩
def kD : Int → Option Int := upd (fun _ => none) 0 (some 10)
def kT0 : Stand := ⟨0, [⟨0, 60⟩], 60⟩
def kT1 : Stand := ⟨1, [⟨0, 40⟩], 40⟩
def kS0 : House := emptyH
def kS1 : House := ⟨[sAnn], [⟨100, 0, []⟩], [], 0, [kO0], [], fun _ => none⟩
def kS2 : House := ⟨[sAnn, sBob], [⟨100, 0, []⟩, ⟨100, 0, []⟩], [], 0, [kO0, kO1], [], fun _ => none⟩
def kS3 : House := ⟨[sAnn, sBob], [⟨100, 0, []⟩, ⟨100, 0, []⟩], [kL []], 0, [kO0, kO1, kO2], [], kD⟩
def kS4 : House := ⟨[sAnn, sBob], [⟨100, 0, [(0, 60)]⟩, ⟨100, 0, []⟩], [kL [kT0]], 0, [kO0, kO1, kO2, kO3], [], kD⟩
def kS5 : House := ⟨[sAnn, sBob], [⟨100, 0, [(0, 60)]⟩, ⟨100, 0, [(0, 40)]⟩], [kL [kT0, kT1]], 0, [kO0, kO1, kO2, kO3, kO4], [], kD⟩
def kS7 : House := ⟨[sAnn, sBob], [⟨100, 40, []⟩, ⟨100, 0, []⟩], [⟨kP, 10, true, [], ⟨-1, 0, 0, 10⟩, 40⟩], 10, [kO0, kO1, kO2, kO3, kO4, kO6], [⟨5, 0, 0, 40, 0, 0, 10⟩], laterD kD 10⟩
def kS : Nat → House
  | 0 => kS0 | 1 => kS1 | 2 => kS2 | 3 => kS3 | 4 => kS4 | 5 => kS5 | 6 => kS5 | _ => kS7
def kK : Nat → Nat
  | 0 => 0 | 1 => 0 | 2 => 0 | 3 => 0 | 4 => 1 | 5 => 2 | 6 => 2 | _ => 4098
theorem due_one {D : Int → Option Int} {t : Int} {ds : List Du} (h : DueL D t ds) (n x : Int) (hd : ∀ m y, D m = some y ∧ y ≤ t ↔ m = n ∧ y = x) : ds = [(x, n)] := by
  have h1 : ∀ d ∈ ds, d = (x, n) := fun d hd2 => by
    obtain ⟨a, b⟩ := (hd _ _).1 ((h.mem d).1 hd2)
    cases d; simp_all
  have h2 : (x, n) ∈ ds := (h.mem (x, n)).2 ((hd n x).2 ⟨rfl, rfl⟩)
  match ds, h1, h2, h.nodup with
  | [], _, h2, _ => cases h2
  | [a], h1, _, _ => rw [h1 a List.mem_cons_self]
  | a :: b :: l, h1, _, h3 =>
    rw [h1 a List.mem_cons_self, h1 b (List.mem_cons_of_mem _ List.mem_cons_self)] at h3
    simp at h3
end Go.Proofs.YthoaidfpgijbfaaGreat.Ho
namespace Go.Proofs.YthoaidfpgijbfaaGreat.Ho
open Go.RowKit
open Go.Proofs.YthoaidfpgijbfaaGreat.Vb Go.Proofs.YthoaidfpgijbfaaGreat.Ac
theorem kAcc0 (sp : Int) (h : 0 ≤ sp ∧ sp ≤ 100) : Acc.Ok ⟨100, sp, []⟩ := ⟨by unfold coin; simp only; omega, by unfold coin; simp only; omega, List.Pairwise.nil, fun p hp => by simp at hp, by simp [sumM]⟩
theorem kAcc1 (v : Int) (h : 1 ≤ v ∧ v ≤ 100) : Acc.Ok ⟨100, 0, [(0, v)]⟩ := ⟨by unfold coin; simp only; omega, by unfold coin; simp, List.pairwise_singleton _ _, fun p hp => by simp at hp; subst hp; simp; omega, by simp [sumM]; omega⟩
theorem kAccs5 : AccsOk kS5.accs := fun a ha => by
  simp only [kS5, List.mem_cons, List.mem_nil_iff, or_false, List.not_mem_nil] at ha
  rcases ha with rfl | rfl
  · exact ⟨kAcc1 60 (by omega), by simp [Acc.Fine, sumM]⟩
  · exact ⟨kAcc1 40 (by omega), by simp [Acc.Fine, sumM]⟩
theorem kDue : kS5.due = dueOf kS5.lots := by
  funext n
  unfold dueOf
  simp only [kS5, kD, upd]
  by_cases h0 : n = 0
  · subst h0; rfl
  · rw [if_neg h0]
    by_cases h1 : n < 0
    · rw [if_pos h1]
    · rw [if_neg h1]
      rw [List.getElem?_eq_none (by simp only [List.length_cons, List.length_nil]; omega)]
theorem kSells (l : LotS) (hl : l ∈ kS5.lots) : SellsAs (fun l => (sealedLot l, sealedSales l)) 2 l := by
  simp only [kS5, List.mem_cons, List.not_mem_nil, or_false] at hl
  subst hl
  have hst : ∀ s ∈ (kL [kT0, kT1]).stands, (0 ≤ s.bidder ∧ s.bidder < 2) ∧ coin s.held := fun s hs => by
    simp only [kL, List.mem_cons, List.not_mem_nil, or_false] at hs
    rcases hs with rfl | rfl <;> exact ⟨by decide, by unfold coin; decide⟩
  refine ⟨by decide, fun s hs => (hst s hs).1, by decide, ⟨rfl, rfl⟩, fun s hs => ?_, by decide, fun W T j b hL hT => ?_⟩
  · have : sealedSales (kL [kT0, kT1]) = [⟨0, 0, 0, 40, 0, 0, 0⟩] := rfl
    rw [this] at hs
    simp only [List.mem_cons, List.not_mem_nil, or_false] at hs
    subst hs
    decide
  · exact ssell_any hL hT (fun s hs => ⟨⟨(hst s hs).1.1, by have := (hst s hs).1.2; omega⟩, (hst s hs).2⟩) (by decide)
section
variable {W : World} {T T0 : Nat → Part} {h lo : Nat} {A : Option Addr} {c : Nat}
theorem at_house {K : Nat} {H : House} (hH : HouseIn W T h K H) {i j : Nat} {a : Acc} {l : LotS} (ha : H.accs[i]? = some a) (hl : H.lots[j]? = some l) :
    ∃ pn pc va vl vb vs bl ba ma, AtIt W T h pn pc va vl vb vs K H bl ba ma i j a l := by
  obtain ⟨pn, pc, va, vl, vb, vs, hA⟩ := hH
  obtain ⟨ba, ma, har, hac⟩ := hA.accs
  obtain ⟨bl, hlr, hll⟩ := hA.lots
  exact ⟨pn, pc, va, vl, vb, vs, bl, ba, ma, hA, hlr, hll, har, hac, ha, hl⟩
theorem kDo0 (hH : HouseIn W T h 0 kS0) {R : Nat → Prop} (hO : Offs W R (.slice A kO0.offers.length c) kO0.offers) (hR : ∀ b, b < W.heap.size → R b → T b = .no) :
    Calls Tryz.prog 9 #[.pointer (some ⟨h, 0, none⟩), kO0.agg (.slice A kO0.offers.length c)] W fun e W' => e = .returned (ansV 0 0 0) ∧ ∃ T', HouseIn W' T' h 0 kS1 ∧ Moves W T W' T' := by
  refine (do_ok_1 hH kO0 rfl (by decide) hO hR (by decide) (K' := 0) (H1 := enterH kS0 100 sAnn) (v := 0) (by decide) fun W1 h1 _ => ?_).mono ?_
  · obtain ⟨pn, pc, va, vl, vb, vs, h1⟩ := h1
    exact henter_ok h1 rfl kO0 _ (by decide) (by decide)
  · rintro e W' ⟨rfl, T', h2, h3⟩
    exact ⟨rfl, T', h2, h3⟩
theorem kDo1 (hH : HouseIn W T h 0 kS1) {R : Nat → Prop} (hO : Offs W R (.slice A kO1.offers.length c) kO1.offers) (hR : ∀ b, b < W.heap.size → R b → T b = .no) :
    Calls Tryz.prog 9 #[.pointer (some ⟨h, 0, none⟩), kO1.agg (.slice A kO1.offers.length c)] W fun e W' => e = .returned (ansV 1 0 1) ∧ ∃ T', HouseIn W' T' h 0 kS2 ∧ Moves W T W' T' := by
  refine (do_ok_1 hH kO1 rfl (by decide) hO hR (by decide) (K' := 0) (H1 := enterH kS1 100 sBob) (v := 1) (by decide) fun W1 h1 _ => ?_).mono ?_
  · obtain ⟨pn, pc, va, vl, vb, vs, h1⟩ := h1
    exact henter_ok h1 rfl kO1 _ (by decide) (by decide)
  · rintro e W' ⟨rfl, T', h2, h3⟩
    exact ⟨rfl, T', h2, h3⟩
theorem kDo2 (hH : HouseIn W T h 0 kS2) {R : Nat → Prop} (hO : Offs W R (.slice A kO2.offers.length c) kO2.offers) (hR : ∀ b, b < W.heap.size → R b → T b = .no) :
    Calls Tryz.prog 9 #[.pointer (some ⟨h, 0, none⟩), kO2.agg (.slice A kO2.offers.length c)] W fun e W' => e = .returned (ansV 2 0 0) ∧ ∃ T', HouseIn W' T' h 0 kS3 ∧ Moves W T W' T' := by
  refine (do_ok_3 hH kO2 rfl (by decide) hO hR (by decide) (K' := 0) (H1 := putH kS2 kP) (v := 0) (by decide) fun W1 h1 _ => ?_).mono ?_
  · obtain ⟨pn, pc, va, vl, vb, vs, h1⟩ := h1
    exact hput_ok h1 (by decide) kO2 _ (by decide)
  · rintro e W' ⟨rfl, T', h2, h3⟩
    exact ⟨rfl, T', h2, h3⟩
theorem kDo3 (hH : HouseIn W T h 0 kS3) {R : Nat → Prop} (hO : Offs W R (.slice A kO3.offers.length c) kO3.offers) (hR : ∀ b, b < W.heap.size → R b → T b = .no) :
    Calls Tryz.prog 9 #[.pointer (some ⟨h, 0, none⟩), kO3.agg (.slice A kO3.offers.length c)] W fun e W' => e = .returned (ansV 3 0 0) ∧ ∃ T', HouseIn W' T' h 1 kS4 ∧ Moves W T W' T' := by
  refine (do_ok_4 hH kO3 rfl (by decide) hO hR (by decide) (K' := 1) (H1 := standH kS3 0 0 ⟨100, 0, []⟩ (kL []) kT0) (v := 0) (by decide) fun W1 h1 hO1 => ?_).mono ?_
  · obtain ⟨pn, pc, va, vl, vb, vs, bl, ba, ma, hat⟩ := at_house h1 (i := 0) (j := 0) (a := ⟨100, 0, []⟩) (l := kL []) rfl rfl
    refine (hbid_3 hat kO3 rfl rfl (by unfold runs; decide) rfl (Q := fun W2 v er W' => v = 0 ∧ er = 0 ∧ ∃ T', HouseIn W' T' h 1 (standH kS3 0 0 ⟨100, 0, []⟩ (kL []) kT0) ∧ Moves W2 T W' T') fun W2 hb => ?_).mono ?_
    · refine (sbid_ok (hat.grow hb) kO3 rfl rfl (Offs.grow hO1 hb) (fun b hr => hR b hr.2 hr.1) (kAcc0 0 (by omega)) (by decide) (co := 60) rfl (by decide) (by decide) (by decide) (by decide) (by decide)).mono ?_
      rintro e W' ⟨rfl, h2⟩
      exact ⟨0, 0, rfl, rfl, rfl, h2⟩
    · rintro e W' ⟨v, er, rfl, W2, hb, rfl, rfl, T', h2, h3⟩
      exact ⟨rfl, T', h2, (HouseAt.movesB hb).trans h3⟩
  · rintro e W' ⟨rfl, T', h2, h3⟩
    exact ⟨rfl, T', h2, h3⟩
theorem kDo4 (hH : HouseIn W T h 1 kS4) {R : Nat → Prop} (hO : Offs W R (.slice A kO4.offers.length c) kO4.offers) (hR : ∀ b, b < W.heap.size → R b → T b = .no) :
    Calls Tryz.prog 9 #[.pointer (some ⟨h, 0, none⟩), kO4.agg (.slice A kO4.offers.length c)] W fun e W' => e = .returned (ansV 4 0 0) ∧ ∃ T', HouseIn W' T' h 2 kS5 ∧ Moves W T W' T' := by
  refine (do_ok_4 hH kO4 rfl (by decide) hO hR (by decide) (K' := 2) (H1 := standH kS4 1 0 ⟨100, 0, []⟩ (kL [kT0]) kT1) (v := 0) (by decide) fun W1 h1 hO1 => ?_).mono ?_
  · obtain ⟨pn, pc, va, vl, vb, vs, bl, ba, ma, hat⟩ := at_house h1 (i := 1) (j := 0) (a := ⟨100, 0, []⟩) (l := kL [kT0]) rfl rfl
    refine (hbid_3 hat kO4 rfl rfl (by unfold runs; decide) rfl (Q := fun W2 v er W' => v = 0 ∧ er = 0 ∧ ∃ T', HouseIn W' T' h 2 (standH kS4 1 0 ⟨100, 0, []⟩ (kL [kT0]) kT1) ∧ Moves W2 T W' T') fun W2 hb => ?_).mono ?_
    · refine (sbid_ok (hat.grow hb) kO4 rfl rfl (Offs.grow hO1 hb) (fun b hr => hR b hr.2 hr.1) (kAcc0 0 (by omega)) (by decide) (co := 40) rfl (by decide) (by decide) (by decide) (by decide) (by decide)).mono ?_
      rintro e W' ⟨rfl, h2⟩
      exact ⟨0, 0, rfl, rfl, rfl, h2⟩
    · rintro e W' ⟨v, er, rfl, W2, hb, rfl, rfl, T', h2, h3⟩
      exact ⟨rfl, T', h2, (HouseAt.movesB hb).trans h3⟩
  · rintro e W' ⟨rfl, T', h2, h3⟩
    exact ⟨rfl, T', h2, h3⟩
theorem kDo5 (hH : HouseIn W T h 2 kS5) {R : Nat → Prop} (hO : Offs W R (.slice A kO5.offers.length c) kO5.offers) (hR : ∀ b, b < W.heap.size → R b → T b = .no) :
    Calls Tryz.prog 9 #[.pointer (some ⟨h, 0, none⟩), kO5.agg (.slice A kO5.offers.length c)] W fun e W' => e = .returned (ansV 0 8 0) ∧ ∃ T', HouseIn W' T' h 2 kS5 ∧ Moves W T W' T' := by
  refine (do_err_4 hH kO5 rfl (by decide) (Offs.mono (R' := fun b => R b ∧ b < W.heap.size) hO fun b hb hr => ⟨hr, hb⟩) (err := 8) (by decide) fun W1 h1 hO1 => ?_).mono ?_
  · obtain ⟨pn, pc, va, vl, vb, vs, bl, ba, ma, hat⟩ := at_house h1 (i := 0) (j := 0) (a := ⟨100, 0, [(0, 60)]⟩) (l := kL [kT0, kT1]) rfl rfl
    refine (hbid_3 hat kO5 rfl rfl (by unfold runs; decide) rfl (Q := fun W2 v er W' => v = 0 ∧ er = 8 ∧ Below W2.heap.size W2 W') fun W2 hb => ?_).mono ?_
    · refine (sbid_err (hat.grow hb) kO5 rfl rfl (Offs.grow hO1 hb) (fun b hr => hR b hr.2 hr.1) (kAcc1 60 (by omega)) (by decide) (by decide)).mono ?_
      rintro e W' ⟨rfl, h2⟩
      exact ⟨0, _, rfl, rfl, by decide, h2⟩
    · rintro e W' ⟨v, er, rfl, W2, hb, rfl, rfl, h2⟩
      exact ⟨rfl, hb.trans (h2.mono hb.size)⟩
  · rintro e W' ⟨rfl, hb⟩
    exact ⟨rfl, T, hH.grow hb, HouseAt.movesB hb⟩
theorem kDo6 (hH : HouseIn W T h 2 kS5) {R : Nat → Prop} (hO : Offs W R (.slice A kO6.offers.length c) kO6.offers) (hR : ∀ b, b < W.heap.size → R b → T b = .no) :
    Calls Tryz.prog 9 #[.pointer (some ⟨h, 0, none⟩), kO6.agg (.slice A kO6.offers.length c)] W fun e W' => e = .returned (ansV 5 0 1) ∧ ∃ T', HouseIn W' T' h 4098 kS7 ∧ Moves W T W' T' := by
  refine (do_ok_6 hH kO6 rfl (by decide) hO hR (by decide) (K' := 4098) (H1 := timeH (fun l => (sealedLot l, sealedSales l)) kS5 10 [(10, 0)]) (v := 1) (by decide) fun W1 h1 _ => ?_).mono ?_
  · obtain ⟨pn, pc, va, vl, vb, vs, h1⟩ := h1
    refine (htime_ok (f := fun l => (sealedLot l, sealedSales l)) h1 kO6 _ (by decide) (by decide) kDue kAccs5 (by decide) (by decide) (by decide) fun l hl _ _ => kSells l hl).mono ?_
    rintro e W' ⟨ds, T', rfl, hd, h2, h3⟩
    have hds := due_one hd 0 10 fun m y => by
      simp only [kS5, kD, upd, kO6]
      by_cases hm : m = 0
      · rw [if_pos hm]; simp; constructor
        · rintro ⟨rfl, _⟩; exact ⟨hm, rfl⟩
        · rintro ⟨_, rfl⟩; exact ⟨rfl, by omega⟩
      · rw [if_neg hm]; simp [hm]
    subst hds
    exact ⟨rfl, T', h2, h3⟩
  · rintro e W' ⟨rfl, T', h2, h3⟩
    exact ⟨rfl, T', h2, h3⟩
theorem kRun : RunStep T0 h lo kS kK kOs kAns := by
  intro k o a hk ha W T A c hH hlo hT hO
  have hR : ∀ b, b < W.heap.size → (b < lo ∧ T0 b = .no) → T b = .no := fun b _ hr => (hT b hr.1).trans hr.2
  match k, hk, ha, hH with
  | 0, hk, ha, hH => cases hk; cases ha; exact kDo0 hH hO hR
  | 1, hk, ha, hH => cases hk; cases ha; exact kDo1 hH hO hR
  | 2, hk, ha, hH => cases hk; cases ha; exact kDo2 hH hO hR
  | 3, hk, ha, hH => cases hk; cases ha; exact kDo3 hH hO hR
  | 4, hk, ha, hH => cases hk; cases ha; exact kDo4 hH hO hR
  | 5, hk, ha, hH => cases hk; cases ha; exact kDo5 hH hO hR
  | 6, hk, ha, hH => cases hk; cases ha; exact kDo6 hH hO hR
  | k + 7, hk, _, _ => simp [kOs] at hk
end
end Go.Proofs.YthoaidfpgijbfaaGreat.Ho
namespace Go.Proofs.YthoaidfpgijbfaaGreat.Ho
open Go.RowKit
open Go.Proofs.YthoaidfpgijbfaaGreat.Vb Go.Proofs.YthoaidfpgijbfaaGreat.Ac
theorem sl_blk {W : World} {R : Nat → Prop} {g n sz : Nat} {t : TypeId} {cs : Array Value} (h : Ac.Blk W g t cs) (hR : R g) (hn : n ≤ maxLen) (hs : cs.size = n * sz) : Sl W R (.slice (some ⟨g, 0, none⟩) n n) n sz cs.toList :=
  ⟨by rw [Array.length_toList]; exact hs, _, n, rfl, Nat.le_refl _, hn, fun _ => ⟨g, 0, rfl, hR, h.lt, fun j u hj => by rw [Nat.zero_add]; exact (h.cell j).trans (by rw [← Array.getElem?_toList]; exact hj)⟩⟩
theorem row_cells {W : World} {R : Nat → Prop} {e : TypeId} {sz n c : Nat} {A : Option Addr} {xs : List Value} (h : RowAt W R e sz (.slice A n c) n xs) (hn : 0 < n) : ∃ g, A = some ⟨g, 0, none⟩ ∧ R g ∧ g < W.heap.size ∧ ∀ j u, xs[j]? = some u → W.cell? ⟨g, j, none⟩ = some u := by
  obtain ⟨g, cap, hv, hR, hlt, _⟩ := h.ex hn
  injection hv with hA _ _
  subst hA
  obtain ⟨_, A', c', hv', _, _, hcs⟩ := h.sl
  injection hv' with hA' _ _
  subst hA'
  obtain ⟨b, off, hb, _, _, hcc⟩ := hcs hn
  injection hb with hb
  injection hb with h1 h2 _
  subst h1
  subst h2
  exact ⟨g, rfl, hR, hlt, fun j u hj => by have := hcc j u hj; rwa [Nat.zero_add] at this⟩
def kV (g : Nat) : Nat → Value := fun k => if k = 3 then .slice (some ⟨g, 0, none⟩) 1 1 else if k = 4 then .slice (some ⟨g + 1, 0, none⟩) 1 1 else if k = 5 then .slice (some ⟨g + 1 + 1, 0, none⟩) 1 1 else .slice none 0 0
theorem kOrders {U : World} {R : Nat → Prop} {g : Nat} (h0 : Ac.Blk U g 106 #[.int .u32 0, .int .i64 60]) (h1 : Ac.Blk U (g + 1) 106 #[.int .u32 0, .int .i64 40]) (h2 : Ac.Blk U (g + 1 + 1) 106 #[.int .u32 0, .int .i64 101])
    (h3 : Ac.Blk U (g + 1 + 1 + 1) 36 (orderCells kOs (kV g)).toArray) (hR : ∀ b, g ≤ b → b < U.heap.size → R b) : OrdersAt U R (.slice (some ⟨g + 1 + 1 + 1, 0, none⟩) 7 7) kOs := by
  have hn : ∀ o : List Off, o = [] → Offs U R (.slice none 0 0) o := fun o ho => by subst ho; exact ⟨Sl.none0 _ _ _, fun o h => by cases h⟩
  have h1l : ∀ (q : Nat) (c : Int), g ≤ q → coin c → Ac.Blk U q 106 #[.int .u32 0, .int .i64 c] → Offs U R (.slice (some ⟨q, 0, none⟩) 1 1) [⟨0, c⟩] := fun q c hq hc hb => ⟨sl_blk hb (hR q hq hb.lt) (by decide) rfl, fun o ho => by
    rw [List.mem_singleton] at ho
    subst ho
    unfold coin at hc
    exact ⟨by simp only; omega, by simp only; omega, by simp only; omega⟩⟩
  refine ⟨kV g, sl_blk h3 (hR _ (by omega) h3.lt) (by decide) rfl, fun k o hk => ?_⟩
  match k, hk with
  | 0, hk => cases hk; exact ⟨⟨_, _, rfl⟩, hn _ rfl⟩
  | 1, hk => cases hk; exact ⟨⟨_, _, rfl⟩, hn _ rfl⟩
  | 2, hk => cases hk; exact ⟨⟨_, _, rfl⟩, hn _ rfl⟩
  | 3, hk => cases hk; exact ⟨⟨_, _, rfl⟩, h1l _ 60 (Nat.le_refl _) (by decide) h0⟩
  | 4, hk => cases hk; exact ⟨⟨_, _, rfl⟩, h1l _ 40 (by omega) (by decide) h1⟩
  | 5, hk => cases hk; exact ⟨⟨_, _, rfl⟩, h1l _ 101 (by omega) (by decide) h2⟩
  | 6, hk => cases hk; exact ⟨⟨_, _, rfl⟩, hn _ rfl⟩
  | k + 7, hk => simp [kOs] at hk
theorem kRunAll {U : World} {T : Nat → Part} {h : Nat} {A : Option Addr} (hH : HouseIn U T h 0 kS0) (ho : OrdersAt U (fun b => b < U.heap.size ∧ T b = .no) (.slice A 7 7) kOs) :
    Calls Tryz.prog 42 #[.pointer (some ⟨h, 0, none⟩), .slice A 7 7] U fun e W' => ∃ A2 c2, e = .returned (.slice A2 7 c2) ∧ ∃ T', HouseIn W' T' h 4098 kS7 ∧ Moves U T W' T' ∧
      RowAt W' (fun b => U.heap.size ≤ b ∧ T' b = .no) 27 3 (.slice A2 7 c2) 7 [.int .i64 0, .int .i64 0, .int .i64 0, .int .i64 1, .int .i64 0, .int .i64 1, .int .i64 2, .int .i64 0, .int .i64 0, .int .i64 3, .int .i64 0, .int .i64 0, .int .i64 4, .int .i64 0, .int .i64 0, .int .i64 0, .int .i64 8, .int .i64 0, .int .i64 5, .int .i64 0, .int .i64 1] := run_any (S := kS) (K := kK) (os := kOs) (ans := kAns) hH ho rfl (by decide) kRun
theorem kBid {W : World} {T : Nat → Part} {h : Nat} (hH : HouseIn W T h 4098 kS7) : Calls Tryz.prog 22 #[.pointer (some ⟨h, 0, none⟩), .int .i64 0] W fun e W' => e = .returned (.tuple #[.agg #[.string { data := #[97, 110, 110] }, .int .i64 100, .int .i64 0, .int .i64 40], .int .i64 0]) ∧ Below W.heap.size W W' :=
  hbidder_ok hH (fun a ha => by
    simp only [kS7, List.mem_cons, List.not_mem_nil, or_false] at ha
    rcases ha with rfl | rfl
    · exact kAcc0 40 (by omega)
    · exact kAcc0 0 (by omega)) (i := 0) (a := ⟨100, 40, []⟩) (s := sAnn) rfl rfl
theorem kSal {W : World} {T : Nat → Part} {h : Nat} (hH : HouseIn W T h 4098 kS7) : Calls Tryz.prog 11 #[.pointer (some ⟨h, 0, none⟩)] W fun e W' => ∃ A c, e = .returned (.slice A 1 c) ∧ RowAt W' (fun b => W.heap.size ≤ b) 44 7 (.slice A 1 c) 1 [.int .i64 5, .int .i64 0, .int .i64 0, .int .i64 40, .int .u32 0, .int .i64 0, .int .i64 10] ∧ Below W.heap.size W W' :=
  hsales_any hH (by decide)
theorem kTak {W : World} {T : Nat → Part} {h : Nat} (hH : HouseIn W T h 4098 kS7) : Calls Tryz.prog 20 #[.pointer (some ⟨h, 0, none⟩)] W fun e W' => e = .returned (.int .i64 40) ∧ Below W.heap.size W W' :=
  taken_any hH (by decide) (fun s hs => by
    simp only [kS7, List.mem_cons, List.not_mem_nil, or_false] at hs
    subst hs
    decide)
set_option maxRecDepth 100000 in
set_option maxHeartbeats 8000000 in
theorem known24 (W : World) : Calls Tryz.prog 13 #[] W fun e W' => e = .returned (.bool true) ∧ Below W.heap.size W W' := by
  go_enter Tryz.func13, Tryz.ntmps13
  go_wp2_with fail
  refine (hnew_any W).mono ?_
  rintro e W1 ⟨h, T, rfl, hH, hb1, hno⟩
  have HH := Lib.hid hH
  have HB1 := Lib.hid hb1
  have HNO := Lib.hid hno
  have HNO1 := Lib.hid (show ∀ b, W1.heap.size ≤ b → T b = .no by obtain ⟨_, _, _, _, _, _, hA⟩ := hH; exact hA.out)
  clear hH hb1 hno
  go_wp2_with fail
  generalize hU : World.alloc (World.alloc (World.alloc (World.alloc W1 _) _) _) _ = U
  have hbU : Below W1.heap.size W1 U := by rw [← hU]; exact (((((Below.refl _ _).alloc (Nat.le_refl _) _).alloc (by simp) _).alloc (by simp; omega) _).alloc (by simp; omega) _)
  have hx0 : Ac.Blk U W1.heap.size 106 #[.int .u32 0, .int .i64 60] := by rw [← hU]; exact (((Ac.Blk.new W1 _ _).grow ((Below.refl _ _).alloc (Nat.le_refl _) _)).grow ((Below.refl _ _).alloc (Nat.le_refl _) _)).grow ((Below.refl _ _).alloc (Nat.le_refl _) _)
  have hx1 : Ac.Blk U (W1.heap.size + 1) 106 #[.int .u32 0, .int .i64 40] := by rw [← hU]; exact ((Ac.Blk.new' _ _ (by simp)).grow ((Below.refl _ _).alloc (Nat.le_refl _) _)).grow ((Below.refl _ _).alloc (Nat.le_refl _) _)
  have hx2 : Ac.Blk U (W1.heap.size + 1 + 1) 106 #[.int .u32 0, .int .i64 101] := by rw [← hU]; exact (Ac.Blk.new' _ _ (by simp)).grow ((Below.refl _ _).alloc (Nat.le_refl _) _)
  have hx3 : Ac.Blk U (W1.heap.size + 1 + 1 + 1) 36 (orderCells kOs (kV W1.heap.size)).toArray := by rw [← hU]; exact Ac.Blk.new' _ _ (by simp)
  have ho := kOrders (R := fun b => b < U.heap.size ∧ T b = .no) hx0 hx1 hx2 hx3 fun b h1 h2 => ⟨h2, HNO1.out b h1⟩
  have HBU := Lib.hid (HB1.out.trans (hbU.mono HB1.out.size))
  have HO := Lib.hid ho
  have HHU := Lib.hid (HH.out.grow hbU)
  clear hU hbU hx0 hx1 hx2 hx3 ho
  refine (kRunAll HHU.out HO.out).mono ?_
  rintro e W2 ⟨A2, c2, rfl, T2, hH2, hM2, hrow⟩
  have HB2 := Lib.hid (show Below W.heap.size W W2 from HBU.out.trans (hM2.chg.below HBU.out.size fun b hb ho => ho.2 (HNO.out b hb)))
  have HH2 := Lib.hid hH2
  obtain ⟨g, rfl, _, hgl, hgc⟩ := row_cells hrow (by omega)
  have HGC := Lib.hid hgc
  have HGL := Lib.hid hgl
  clear hH2 hM2 hrow hgc hgl
  go_wp2_with fail
  refine (kBid HH2.out).mono ?_
  rintro e W3 ⟨rfl, hb⟩
  have HB3 := Lib.hid (HB2.out.trans (hb.mono HB2.out.size))
  have HH3 := Lib.hid (HH2.out.grow hb)
  have HG3 := Lib.hid hb
  clear hb
  go_wp2_with fail
  generalize hV : World.alloc _ _ = V
  have hb : Below W3.heap.size W3 V := by rw [← hV]; exact (Below.refl _ _).alloc (Nat.le_refl _) _
  have HX := Lib.hid (show Ac.Blk V W3.heap.size 62 #[.string { data := #[97, 110, 110] }, .int .i64 100, .int .i64 0, .int .i64 40] by rw [← hV]; exact Ac.Blk.new W3 _ _)
  have HBV := Lib.hid (HB3.out.trans (hb.mono HB3.out.size))
  have HHV := Lib.hid (HH3.out.grow hb)
  have HGV := Lib.hid (HG3.out.trans (hb.mono HG3.out.size))
  clear hV hb
  refine (kSal HHV.out).mono ?_
  rintro e W4 ⟨A4, c4, rfl, hrow, hb⟩
  have HB4 := Lib.hid (HBV.out.trans (hb.mono HBV.out.size))
  have HH4 := Lib.hid (HHV.out.grow hb)
  have HX4 := HX.out.grow hb
  have hg4 := HGV.out.trans (hb.mono HGV.out.size)
  obtain ⟨s, rfl, _, _, hsc⟩ := row_cells hrow (by omega)
  have a15 := (hg4.cell (p := ⟨g, 15, none⟩) HGL.out).trans (HGC.out 15 _ rfl)
  have a16 := (hg4.cell (p := ⟨g, 16, none⟩) HGL.out).trans (HGC.out 16 _ rfl)
  have a17 := (hg4.cell (p := ⟨g, 17, none⟩) HGL.out).trans (HGC.out 17 _ rfl)
  have a18 := (hg4.cell (p := ⟨g, 18, none⟩) HGL.out).trans (HGC.out 18 _ rfl)
  have a19 := (hg4.cell (p := ⟨g, 19, none⟩) HGL.out).trans (HGC.out 19 _ rfl)
  have a20 := (hg4.cell (p := ⟨g, 20, none⟩) HGL.out).trans (HGC.out 20 _ rfl)
  have s0 := hsc 0 _ rfl
  have s1 := hsc 1 _ rfl
  have s2 := hsc 2 _ rfl
  have s3 := hsc 3 _ rfl
  have s4 := hsc 4 _ rfl
  have s5 := hsc 5 _ rfl
  have s6 := hsc 6 _ rfl
  have b0 := HX4.cell 0
  have b1 := HX4.cell 1
  have b2 := HX4.cell 2
  have b3 := HX4.cell 3
  clear hrow hb hg4 hsc HX4
  go_wp2_with fail
  refine (kTak HH4.out).mono ?_
  rintro e W5 ⟨rfl, hb⟩
  have HB5 := Lib.hid (HB4.out.trans (hb.mono HB4.out.size))
  clear hb
  go_wp2_with fail
  try rw [Exit.noGoto_ret]
  go_ret
  exact ⟨rfl, HB5.out⟩
end Go.Proofs.YthoaidfpgijbfaaGreat.Ho
namespace Go.Proofs.YthoaidfpgijbfaaGreat.Ho
open Go.RowKit
open Go.Proofs.YthoaidfpgijbfaaGreat.Vb Go.Proofs.YthoaidfpgijbfaaGreat.Ac
def timeO (t : Int) : OrderR := ⟨6, sNil, 0, 0, 0, zeroLot, [], t⟩
def putO (l : LotR) : OrderR := ⟨3, sNil, 0, 0, 0, l, [], 0⟩
def eT (t : Int) : Int := if coinB t = true then 0 else 2
def hT1 (t : Int) : House := ⟨[], [], [], t, [timeO t], [], laterD emptyH.due t⟩
def hT (t : Int) : House := if coinB t = true then hT1 t else emptyH
def nP (H : House) (l : LotR) : Int := if putE H l = 0 then H.book.length else 0
def hP1 (H : House) (l : LotR) : House := { putH H l with book := H.book ++ [putO l] }
def hP (H : House) (l : LotR) : House := if putE H l = 0 then hP1 H l else H
section
variable {W : World} {T : Nat → Part} {R : Nat → Prop} {h r : Nat} {H : House}
theorem offs_nil (W : World) (R : Nat → Prop) : Offs W R (.slice none 0 0) [] := ⟨Sl.none0 _ _ _, fun o h => by cases h⟩
theorem coin_nn {t : Int} (h : coinB t = true) : 0 ≤ t := by
  simp only [coinB, Bool.and_eq_true, decide_eq_true_eq] at h
  exact h.1
theorem do_time (t : Int) (hH : HouseIn W T h 0 emptyH) : Calls Tryz.prog 9 #[.pointer (some ⟨h, 0, none⟩), (timeO t).agg (.slice none 0 0)] W fun e W' => e = .returned (ansV 0 (eT t) 0) ∧ ∃ T', HouseIn W' T' h 0 (hT t) ∧ Moves W T W' T' := by
  unfold eT hT
  by_cases hc : coinB t = true
  · rw [if_pos hc, if_pos hc]
    refine (do_ok_6 hH (timeO t) (A := none) (c := 0) rfl rfl (R := fun _ => False) (offs_nil _ _) (fun b _ hr => hr.elim) (Nat.zero_le _) (K' := 0) (H1 := { emptyH with now := t, due := laterD emptyH.due t }) (v := 0) (Nat.zero_le _) fun W1 h1 _ => ?_).mono ?_
    · obtain ⟨pn, pc, va, vl, vb, vs, h1⟩ := h1
      refine (htime_ok (f := fun l => (l, [])) h1 (timeO t) _ hc (coin_nn hc) ?_ (fun a ha => by cases ha) (by decide) (by decide) (by decide) fun l hl _ _ => by cases hl).mono ?_
      · funext n
        unfold dueOf
        simp [emptyH]
      · rintro e W' ⟨ds, T', rfl, hd, h2, h3⟩
        have hds : ds = [] := List.eq_nil_iff_forall_not_mem.2 fun d hd2 => by
          have := (hd.mem d).1 hd2
          simp [emptyH] at this
        subst hds
        exact ⟨rfl, T', h2, h3⟩
    · rintro e W' ⟨rfl, T', h2, h3⟩
      exact ⟨rfl, T', h2, h3⟩
  · rw [if_neg hc, if_neg hc]
    have hc2 : coinB t = false := by simpa using hc
    refine (do_err_6 hH (timeO t) (A := none) (c := 0) rfl rfl (R := fun _ => False) (offs_nil _ _) (err := 2) (by decide) fun W1 h1 _ => ?_).mono ?_
    · obtain ⟨pn, pc, va, vl, vb, vs, h1⟩ := h1
      have h2 := htime_err h1 (timeO t) (.slice none 0 0) (.inl hc2)
      rw [show (timeO t).tick = t from rfl, if_neg hc] at h2
      exact h2
    · rintro e W' ⟨rfl, hb⟩
      exact ⟨rfl, T, hH.grow hb, HouseAt.movesB hb⟩
theorem do_put (l : LotR) (hH : HouseIn W T h 0 H) (hl : H.lots = []) (hb : H.book.length ≤ 1) : Calls Tryz.prog 9 #[.pointer (some ⟨h, 0, none⟩), (putO l).agg (.slice none 0 0)] W fun e W' => e = .returned (ansV (nP H l) (putE H l) 0) ∧ ∃ T', HouseIn W' T' h 0 (hP H l) ∧ Moves W T W' T' := by
  unfold nP hP
  by_cases hc : putE H l = 0
  · rw [if_pos hc, if_pos hc, hc]
    refine (do_ok_3 hH (putO l) (A := none) (c := 0) rfl rfl (R := fun _ => False) (offs_nil _ _) (fun b _ hr => hr.elim) (Nat.zero_le _) (K' := 0) (H1 := putH H l) (v := 0) (by show H.book.length ≤ 1000000; omega) fun W1 h1 _ => ?_).mono ?_
    · obtain ⟨pn, pc, va, vl, vb, vs, h1⟩ := h1
      have h2 := hput_ok h1 (by rw [hl]; decide) (putO l) (.slice none 0 0) hc
      rw [hl] at h2
      exact h2
    · rintro e W' ⟨rfl, T', h2, h3⟩
      exact ⟨rfl, T', h2, h3⟩
  · rw [if_neg hc, if_neg hc]
    refine (do_err_3 hH (putO l) (A := none) (c := 0) rfl rfl (R := fun _ => False) (offs_nil _ _) (err := putE H l) hc fun W1 h1 _ => ?_).mono ?_
    · obtain ⟨pn, pc, va, vl, vb, vs, h1⟩ := h1
      exact hput_err h1 (putO l) (.slice none 0 0) hc
    · rintro e W' ⟨rfl, hb⟩
      exact ⟨rfl, T, hH.grow hb, HouseAt.movesB hb⟩
theorem RefIn.lt (hR : RefIn W R r H) : r < W.heap.size ∧ ¬ R r := by
  obtain ⟨_, _, _, _, _, _, h⟩ := hR
  exact ⟨h.blk.lt, h.not⟩
theorem RefIn.mono {R' : Nat → Prop} (hR : RefIn W R r H) (h : ∀ b, b < W.heap.size → R b → R' b) (hn : ¬ R' r) : RefIn W R' r H := hR.step (X := fun _ => False) (Chg.refl _ _) (fun _ _ _ => id) h hn
theorem rdo_time (t : Int) (hR : RefIn W R r emptyH) : Calls Tryz.prog 14 #[.pointer (some ⟨r, 0, none⟩), (timeO t).agg (.slice none 0 0)] W fun e W' => e = .returned (ansV 0 (eT t) 0) ∧ RefIn W' (fun b => R b ∨ W.heap.size ≤ b) r (hT t) ∧ Chg (· = r) W W' := by
  obtain ⟨hrl, hrn⟩ := hR.lt
  unfold eT hT
  by_cases hc : coinB t = true
  · rw [if_pos hc, if_pos hc]
    refine (rdo_ok (R := R) (R0 := fun _ => False) hrl (timeO t) (A := none) (c := 0) (offs_nil _ _) (fun b hr => hr.elim) (Nat.zero_le _) (v := 0) (H1 := { emptyH with now := t, due := laterD emptyH.due t }) (Nat.zero_le _) fun W1 hb1 => ?_).mono ?_
    · refine (rdoes_6 (timeO t) (A := none) (c := 0) rfl rfl (Q := fun W2 v er W' => v = 0 ∧ er = 0 ∧ RefIn W' (fun b => (R b ∧ b < W.heap.size) ∨ W2.heap.size ≤ b) r { emptyH with now := t, due := laterD emptyH.due t } ∧ Chg (· = r) W2 W') fun W2 hb2 => ?_).mono ?_
      · have h2 := ((hR.mono (R' := fun b => R b ∧ b < W.heap.size) (fun b hb hr => ⟨hr, hb⟩) fun h => hrn h.1).grow hb1).grow hb2
        refine (rtime_nil h2 rfl (timeO t) (.slice none 0 0) hc (coin_nn hc) (laterD emptyH.due t)).mono ?_
        rintro e W' ⟨rfl, h3, h4⟩
        exact ⟨0, 0, rfl, rfl, rfl, h3, h4⟩
      · rintro e W' ⟨v, er, rfl, W2, hb2, rfl, rfl, h3, h4⟩
        have hs1 := hb1.size
        have hs2 := hb2.size
        refine ⟨rfl, h3.mono (fun b _ hr => hr.imp id fun hr => by omega) fun hr => ?_, (Chg.of _ hb2).step h4 fun b _ hx => hx⟩
        rcases hr with hr | hr
        · exact hrn hr.1
        · omega
    · rintro e W' ⟨rfl, h2, h3⟩
      exact ⟨rfl, h2, h3⟩
  · rw [if_neg hc, if_neg hc]
    have hc2 : coinB t = false := by simpa using hc
    refine (rdo_err (timeO t) (A := none) (c := 0) (v := 0) (er := 2) (by decide) fun W1 hb1 => ?_).mono ?_
    · refine (rdoes_6 (timeO t) (A := none) (c := 0) rfl rfl (Q := fun W2 v er W' => v = 0 ∧ er = 2 ∧ Below W2.heap.size W2 W') fun W2 hb2 => ?_).mono ?_
      · have h2 := rtime_err ((hR.grow hb1).grow hb2) (timeO t) (.slice none 0 0) (.inl hc2)
        rw [show (timeO t).tick = t from rfl, if_neg hc] at h2
        refine h2.mono ?_
        rintro e W' ⟨rfl, h3⟩
        exact ⟨0, 2, rfl, rfl, rfl, h3⟩
      · rintro e W' ⟨v, er, rfl, W2, hb2, rfl, rfl, h3⟩
        exact ⟨rfl, hb2.trans (h3.mono hb2.size)⟩
    · rintro e W' ⟨rfl, hb⟩
      exact ⟨rfl, (hR.grow hb).mono (fun b _ hr => .inl hr) fun h => h.elim hrn fun h => by omega, Chg.of _ hb⟩
theorem rdo_put (l : LotR) (hR : RefIn W R r H) (hl : H.lots = []) (hb : H.book.length ≤ 1) : Calls Tryz.prog 14 #[.pointer (some ⟨r, 0, none⟩), (putO l).agg (.slice none 0 0)] W fun e W' => e = .returned (ansV (nP H l) (putE H l) 0) ∧ RefIn W' (fun b => R b ∨ W.heap.size ≤ b) r (hP H l) ∧ Chg (· = r) W W' := by
  obtain ⟨hrl, hrn⟩ := hR.lt
  unfold nP hP
  by_cases hc : putE H l = 0
  · rw [if_pos hc, if_pos hc, hc]
    refine (rdo_ok (R := R) (R0 := fun _ => False) hrl (putO l) (A := none) (c := 0) (offs_nil _ _) (fun b hr => hr.elim) (Nat.zero_le _) (v := 0) (H1 := putH H l) (by show H.book.length ≤ 1000000; omega) fun W1 hb1 => ?_).mono ?_
    · refine (rdoes_3 (putO l) (A := none) (c := 0) rfl rfl (Q := fun W2 v er W' => v = 0 ∧ er = 0 ∧ RefIn W' (fun b => (R b ∧ b < W.heap.size) ∨ W2.heap.size ≤ b) r (putH H l) ∧ Chg (· = r) W2 W') fun W2 hb2 => ?_).mono ?_
      · have h2 := ((hR.mono (R' := fun b => R b ∧ b < W.heap.size) (fun b hb hr => ⟨hr, hb⟩) fun h => hrn h.1).grow hb1).grow hb2
        refine (rput_ok h2 (by rw [hl]; decide) (putO l) (.slice none 0 0) hc).mono ?_
        rintro e W' ⟨rfl, h3, h4⟩
        exact ⟨0, 0, by rw [hl]; rfl, rfl, rfl, h3, h4⟩
      · rintro e W' ⟨v, er, rfl, W2, hb2, rfl, rfl, h3, h4⟩
        have hs1 := hb1.size
        have hs2 := hb2.size
        refine ⟨rfl, h3.mono (fun b _ hr => hr.imp id fun hr => by omega) fun hr => ?_, (Chg.of _ hb2).step h4 fun b _ hx => hx⟩
        rcases hr with hr | hr
        · exact hrn hr.1
        · omega
    · rintro e W' ⟨rfl, h2, h3⟩
      exact ⟨rfl, h2, h3⟩
  · rw [if_neg hc, if_neg hc]
    refine (rdo_err (putO l) (A := none) (c := 0) (v := 0) (er := putE H l) hc fun W1 hb1 => ?_).mono ?_
    · refine (rdoes_3 (putO l) (A := none) (c := 0) rfl rfl (Q := fun W2 v er W' => v = 0 ∧ er = putE H l ∧ Below W2.heap.size W2 W') fun W2 hb2 => ?_).mono ?_
      · refine (rput_err ((hR.grow hb1).grow hb2) (by rw [hl]; decide) (putO l) (.slice none 0 0) hc).mono ?_
        rintro e W' ⟨rfl, h3⟩
        exact ⟨0, _, rfl, rfl, rfl, h3⟩
      · rintro e W' ⟨v, er, rfl, W2, hb2, rfl, rfl, h3⟩
        exact ⟨rfl, hb2.trans (h3.mono hb2.size)⟩
    · rintro e W' ⟨rfl, hb⟩
      exact ⟨rfl, (hR.grow hb).mono (fun b _ hr => .inl hr) fun h => h.elim hrn fun h => by omega, Chg.of _ hb⟩
end
end Go.Proofs.YthoaidfpgijbfaaGreat.Ho

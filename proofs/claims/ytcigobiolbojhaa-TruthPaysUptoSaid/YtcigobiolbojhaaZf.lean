/- Joined by program: PlainS Raised Single Low Core1 Core2. -/
import Derived.Test.YtcigobiolbojhaaZe
import Derived.Test.YtcigobiolbojhaaZb
import Derived.Test.YtcigobiolbojhaaZa
/- Plain: of one good, each buyer offering at most once, the costs' rule is the sealed one. -/
namespace Go.Proofs.Ytcigobiolbojhaa.Vb

def One (bs : List (List Off)) : Prop := ∀ l ∈ bs, l.length ≤ 1 ∧ ∀ o ∈ l, o.g = 1 ∧ 1 ≤ o.c ∧ o.c ≤ 1099511627776
theorem One.offer {bs : List (List Off)} (h : One bs) : ∀ l ∈ bs, ∀ o ∈ l, Offer1 o := fun l hl o ho => by
  obtain ⟨h1, h2, h3⟩ := (h l hl).2 o ho
  exact ⟨by omega, by omega, h2, h3⟩
theorem One.W0 {bs : List (List Off)} (h : One bs) : W bs 0 = 0 := W_zero bs h.offer
/-- buyer i has the first of the greatest -/
def Win (bs : List (List Off)) (i : Nat) (c : Int) : Prop := (∃ o, bs[i]? = some [o] ∧ o.c = c) ∧ (∀ (j : Nat) (o : Off), j < i → bs[j]? = some [o] → o.c < c) ∧ ∀ (j : Nat) (o : Off), bs[j]? = some [o] → o.c ≤ c
/-- the bids of the first k buyers -/
def bidsTo (bs : List (List Off)) : Nat → List Sec
  | 0 => []
  | k + 1 => match bs[k]? with | some [o] => bidsTo bs k ++ [⟨k, o.c⟩] | _ => bidsTo bs k
end Go.Proofs.Ytcigobiolbojhaa.Vb

/- Law 17's own: raised. -/
namespace Go.Proofs.Ytcigobiolbojhaa.Vb
open Go.RowKit

theorem withE_in {n : Int} {bs : List (List Off)} {b : Nat} {l : List Off} (h : instE n bs = 0) (hb : b < bs.length) : withE n bs (b : Int) l = checkE n l := by
  unfold withE
  rw [if_neg (by simpa using h), if_neg (by omega)]
end Go.Proofs.Ytcigobiolbojhaa.Vb

/- Law 17's own: single. -/
namespace Go.Proofs.Ytcigobiolbojhaa.Vb
open Go.RowKit

theorem Offs.at_ {w : World} {R : Nat → Prop} {A : Option Addr} {n c k : Nat} {l : List Off} {o : Off} (h : Offs w R (.slice A n c) l) (hk : l[k]? = some o) :
    ∃ b off, A = some ⟨b, off, none⟩ ∧ b < w.heap.size ∧ w.cell? ⟨b, off + k * 2, none⟩ = some (.int .u32 o.g) ∧ w.cell? ⟨b, off + k * 2 + 1, none⟩ = some (.int .i64 o.c) := by
  obtain ⟨⟨_, A', c', hv, _, _, hcs⟩, _⟩ := h
  injection hv with hA _ _
  subst hA
  have hlt := (List.getElem?_eq_some_iff.1 hk).1
  obtain ⟨b, off, hA, _, hlt2, hcc⟩ := hcs (by omega)
  exact ⟨b, off, hA, hlt2, hcc _ _ (Off.all_fst l k o hk), hcc _ _ (Off.all_snd l k o hk)⟩
theorem one_of {bs : List (List Off)} (hw : ∀ l ∈ bs, ∀ o ∈ l, o.wf) (hi : instE 1 bs = 0) (h : ∀ l ∈ bs, l.length ≤ 1) : One bs := fun l hl => by
  obtain ⟨hok, hg⟩ := okb_of hw hi
  refine ⟨h l hl, fun o ho => ?_⟩
  obtain ⟨h1, _, h3, h4⟩ := (hok.2 l hl).2 o ho
  have : o.g ≤ 1 := by simpa using hg l hl o ho
  exact ⟨by omega, h3, h4⟩
end Go.Proofs.Ytcigobiolbojhaa.Vb

/- offers.Lower. -/
namespace Go.Proofs.Ytcigobiolbojhaa.Vb
open Go.RowKit

def lowL (c : Int) (l : List Off) : List Off := (l.filter (fun o => decide (c < o.c))).map (fun o => ⟨o.g, o.c - c⟩)
theorem lowL_len (c : Int) (l : List Off) : (lowL c l).length ≤ l.length := by simp [lowL, List.length_filter_le]
theorem lowL_snoc (c : Int) (l : List Off) (o : Off) : lowL c (l ++ [o]) = lowL c l ++ (if c < o.c then [⟨o.g, o.c - c⟩] else []) := by
  by_cases h : c < o.c <;> simp [lowL, h]
theorem lowL_take {c : Int} {l : List Off} {k : Nat} {o : Off} (hk : l[k]? = some o) : lowL c (l.take (k + 1)) = lowL c (l.take k) ++ (if c < o.c then [⟨o.g, o.c - c⟩] else []) := by
  obtain ⟨hlt, rfl⟩ := List.getElem?_eq_some_iff.mp hk
  rw [List.take_succ_eq_append_getElem hlt, lowL_snoc]
theorem lowL_wf (c : Int) (hc : 0 ≤ c) (l : List Off) (h : ∀ o ∈ l, o.wf) : ∀ o ∈ lowL c l, o.wf := by
  intro o ho
  simp only [lowL, List.mem_map, List.mem_filter, decide_eq_true_eq] at ho
  obtain ⟨p, ⟨hp, hlt⟩, rfl⟩ := ho
  have := h p hp
  unfold Off.wf at *
  simp only
  omega
theorem Off.all_snoc (l : List Off) (o : Off) : Off.all l ++ [.int .u32 o.g, .int .i64 o.c] = Off.all (l ++ [o]) := by simp [Off.all, Off.cells]

set_option maxRecDepth 100000 in
set_option maxHeartbeats 1600000 in
theorem lower_any (c : Int) (hc0 : 0 ≤ c) (hc : c ≤ 9223372036854775807) (l : List Off) (v : Value) (R : Nat → Prop) (w : World) (hl : Offs w R v l) (hsm : l.length ≤ 64) :
    Calls Try.prog 107 #[.int .i64 c, v] w fun e w' => ∃ A' cap', e = .returned (.slice A' (lowL c l).length cap') ∧ w'.ownsRow w.heap.size 45 2 (.slice A' (lowL c l).length cap') (lowL c l).length (Off.all (lowL c l)) ∧ Below w.heap.size w w' := by
  have HL := Lib.hid hl
  obtain ⟨⟨_, A, cap, rfl, hncap, hcap, _⟩, hwf⟩ := hl
  unfold maxLen at hcap
  have HWF := Lib.hid hwf
  clear hwf
  have hc1 : ¬ c < 0 := by omega
  go_enter Try.func107, Try.ntmps107
  go_wp2
  go_loopw [5, 12] (fun s i wr => ∃ k : Nat, k ≤ l.length ∧ i = .int .i64 k ∧ (∃ A' cap', s = .slice A' (lowL c (l.take k)).length cap' ∧ wr.ownsRow w.heap.size 45 2 (.slice A' (lowL c (l.take k)).length cap') (lowL c (l.take k)).length (Off.all (lowL c (l.take k)))) ∧
      Below w.heap.size w wr) (fun _ i _ => l.length - (intOf i).toNat)
  case atStart => exact ⟨0, Nat.zero_le _, rfl, ⟨_, _, rfl, World.ownsRow_nil _ _ _ _⟩, Below.refl _ _⟩
  case round =>
    obtain ⟨k, hk, rfl, ⟨A', cap', rfl, hob⟩, hb⟩ := hrel
    by_cases hlt : k < l.length
    · obtain ⟨o, ho⟩ : ∃ o, l[k]? = some o := ⟨_, List.getElem?_eq_getElem hlt⟩
      obtain ⟨bq, off, rfl, hbq, q0, q1⟩ := (HL.out.grow hb).at_ ho
      have hwo := HWF.out o (List.mem_of_getElem? ho)
      unfold Off.wf at hwo
      have hlen := lowL_len c (l.take k)
      have hlen2 : (lowL c (l.take k)).length ≤ 64 := by simp at hlen; omega
      have HT := Lib.hid (lowL_take (c := c) ho)
      have HO := Lib.hid hob
      have HB := Lib.hid hb
      have hsz := hb.size
      clear hob hb hlen ho
      by_cases hgt : c < o.c
      · have HT2 := Lib.hid (show lowL c (l.take (k + 1)) = lowL c (l.take k) ++ [⟨o.g, o.c - c⟩] by rw [HT.out, if_pos hgt])
        obtain ⟨og, oc⟩ := o
        simp only at *
        go_wp2_with (first
          | (at_builtin; go_must (refine wpList_app _ rfl (.tmp 20) (.tmp 28) et_off rfl w.heap.size (.slice A' (lowL c (l.take k)).length cap') _ _ rfl ((own_alloc (own_alloc HO.out _) _)) (fun _ => True) (.slice (some ⟨wr.heap.size + 1, 0, none⟩) 1 1) 1 [.int .u32 og, .int .i64 (oc - c)] rfl (Sl.blk (sz := 2) (cs := #[.int .u32 og, .int .i64 (oc - c)]) (t := 45) (Blk.new' _ _ (by simp)) (Nat.le_refl 1) (by unfold maxLen; omega) rfl) (by simp [Value.oneCell']) (by omega) (by unfold maxLen; omega) (by simp; omega) ?_); intro A3 cap3 w3 hown3 hg3 hloc3; have HW3 := Lib.hid hown3; have HG3 := Lib.hid hg3; clear hown3 hg3 hloc3))
        go_roundw
        case rel =>
          have hlen3 : (lowL c (l.take (k + 1))).length = (lowL c (l.take k)).length + 1 := by rw [HT2.out]; simp
          refine ⟨k + 1, by omega, by go_num, ⟨A3, cap3, by rw [hlen3], ?_⟩, ?_⟩
          · rw [hlen3, HT2.out, ← Off.all_snoc]
            exact HW3.out
          · exact ((HB.out.alloc (by omega) _).alloc (by simp; omega) _).grown HG3.out (by simp; omega) (fun g e => (HO.out.lt g e).1)
        case measure => simp [intOf]; omega
      · have HT2 := Lib.hid (show lowL c (l.take (k + 1)) = lowL c (l.take k) by rw [HT.out, if_neg hgt, List.append_nil])
        go_wp2
        go_roundw
        case rel =>
          refine ⟨k + 1, by omega, by go_num, ⟨A', cap', by rw [HT2.out], ?_⟩, HB.out.alloc (by omega) _⟩
          rw [HT2.out]
          exact own_alloc HO.out _
        case measure => simp [intOf]; omega
    · obtain rfl : k = l.length := by omega
      rw [List.take_length] at *
      have HO := Lib.hid hob
      have HB := Lib.hid hb
      clear hob hb
      go_wp2
      go_ret
      exact ⟨_, _, rfl, HO.out, HB.out⟩
end Go.Proofs.Ytcigobiolbojhaa.Vb

/- The sums of layer 18; what is won, as it lies in memory. -/
namespace Go.Proofs.Ytcigobiolbojhaa.Vb
open Go.RowKit

set_option maxHeartbeats 800000 in
theorem coreTotal_any (ps : List Int) (pv : Value) (R : Nat → Prop) (w : World) (h : Sl w R pv ps.length 1 (ints ps)) (hb : ∀ x ∈ ps, -9007199254740992 ≤ x ∧ x ≤ 9007199254740992) (hn : ps.length ≤ 64) :
    Calls Try.prog 101 #[pv] w fun e w' => e = .returned (.int .i64 (sumI ps)) ∧ w = w' := by
  obtain ⟨_, A, cap, rfl, hnc, hcm, hcs⟩ := h
  unfold maxLen at hcm
  have HC := Lib.hid hcs
  have HB := Lib.hid hb
  clear hcs hb
  go_enter Try.func101, Try.ntmps101
  go_wp2
  go_loop [3, 8] (fun s i => ∃ k : Nat, k ≤ ps.length ∧ i = .int .i64 k ∧ s = .int .i64 (sumI (ps.take k))) (fun _ i => ps.length - (intOf i).toNat)
  case atStart => exact ⟨0, Nat.zero_le _, rfl, rfl⟩
  case round =>
    obtain ⟨k, hk, rfl, rfl⟩ := hrel
    by_cases hlt : k < ps.length
    · obtain ⟨bb, off, rfl, _, hbb, hcs⟩ := HC.out (by omega)
      obtain ⟨c, hc⟩ : ∃ c, ps[k]? = some c := ⟨_, List.getElem?_eq_getElem hlt⟩
      have c0 := hcs _ _ (ints_get hc)
      have hst := sumI_take hc
      have h1 := sumI_bd (ps.take k) (fun x hx => HB.out x (List.mem_of_mem_take hx))
      have h2 := HB.out c (List.mem_of_getElem? hc)
      have hkl : ((ps.take k).length : Int) = k := by simp; omega
      rw [hkl] at h1
      have hsum : IntKind.i64.wrap (sumI (ps.take k) + c) = sumI (ps.take k) + c := IntWalk.i64_in _ (by omega)
      have HST := Lib.hid hst
      clear hst h1 h2 hc hcs
      go_wp2
      go_round
      case rel => exact ⟨k + 1, by omega, by go_num, by rw [HST.out]⟩
      case measure => simp [intOf]; omega
    · obtain rfl : k = ps.length := by omega
      rw [List.take_length]
      go_wp2
      go_ret
      exact ⟨rfl, rfl⟩

end Go.Proofs.Ytcigobiolbojhaa.Vb

/- What is won, as it lies in memory; core.of. -/
namespace Go.Proofs.Ytcigobiolbojhaa.Vb
open Go.RowKit

/-- What winners bid. -/
def bidsC (n : Int) (bs : List (List Off)) : List Int := (bestC n bs).mapIdx fun i c => coinAt bs i c
/-- Who wins, of a choice. -/
def winB (cs : List Int) (i : Nat) : Bool := match cs[i]? with | some c => decide (0 ≤ c) | none => false
def winsL (cs : List Int) : List Bool := (List.range 32).map (winB cs)
def wonL (n : Int) (v : Value) (ws : List Bool) (sl : Value) : List Value := .int .i64 n :: v :: (ws.map Value.bool ++ [sl])
theorem wonL_bid (n : Int) (v : Value) (ws : List Bool) (sl : Value) (h : ws.length = 32) : (wonL n v ws sl).toArray[34]? = some sl := by
  simp [wonL, List.getElem?_append, h]
theorem wonL_win (n : Int) (v : Value) (ws : List Bool) (sl : Value) (i : Nat) (b : Bool) (h : ws[i]? = some b) : (wonL n v ws sl).toArray[2 + i]? = some (.bool b) := by
  have hi := (List.getElem?_eq_some_iff.mp h).1
  rw [show 2 + i = i + 1 + 1 from by omega]
  simp [wonL, List.getElem?_append, hi]
  exact (List.getElem?_eq_some_iff.mp h).2
theorem wonL_set (n : Int) (v : Value) (ws : List Bool) (sl : Value) (i : Nat) (b : Bool) (h : i < ws.length) : (wonL n v ws sl).toArray.setIfInBounds (2 + i) (.bool b) = (wonL n v (ws.set i b) sl).toArray := by
  rw [show 2 + i = i + 1 + 1 from by omega]
  simp [wonL, List.set_append, h]
theorem winsL_len (cs : List Int) : (winsL cs).length = 32 := by simp [winsL]
theorem winsL_get (cs : List Int) {i : Nat} (h : i < 32) : (winsL cs)[i]? = some (winB cs i) := by simp [winsL, h]
theorem winsL_take_neg {cs : List Int} {k : Nat} {c : Int} (h : cs[k]? = some c) (hc : c < 0) : winsL (cs.take (k + 1)) = winsL (cs.take k) := by
  unfold winsL
  apply List.map_congr_left
  intro i _
  unfold winB
  by_cases hk : i = k
  · subst hk
    rw [List.getElem?_take_of_lt (by omega), h, List.getElem?_eq_none (by simp; omega)]
    simp; omega
  · by_cases hi : i < k
    · rw [List.getElem?_take_of_lt (by omega), List.getElem?_take_of_lt hi]
    · rw [List.getElem?_eq_none (by simp; omega), List.getElem?_eq_none (by simp; omega)]
theorem winsL_take_pos {cs : List Int} {k : Nat} {c : Int} (h : cs[k]? = some c) (hc : 0 ≤ c) : winsL (cs.take (k + 1)) = (winsL (cs.take k)).set k true := by
  apply List.ext_getElem?
  intro i
  by_cases hi : i < 32
  · rw [winsL_get _ hi]
    by_cases hk : k = i
    · subst hk
      rw [List.getElem?_set_self (by rw [winsL_len]; omega)]
      unfold winB
      rw [List.getElem?_take_of_lt (by omega), h]
      simp [hc]
    · rw [List.getElem?_set_ne hk, winsL_get _ hi]
      unfold winB
      by_cases hik : i < k
      · rw [List.getElem?_take_of_lt (by omega), List.getElem?_take_of_lt hik]
      · rw [List.getElem?_eq_none (by simp; omega), List.getElem?_eq_none (by simp; omega)]
  · rw [List.getElem?_eq_none (by rw [winsL_len]; omega), List.getElem?_eq_none (by simp [winsL_len]; omega)]
theorem bidsC_length (n : Int) (bs : List (List Off)) : (bidsC n bs).length = bs.length := by simp [bidsC, bestC, choose_length]
theorem bidsC_get {n : Int} {bs : List (List Off)} {i : Nat} {c : Int} (h : (bestC n bs)[i]? = some c) : (bidsC n bs)[i]? = some (coinAt bs i c) := by simp [bidsC, h]

/-- The bids of the first k; behind them noughts. -/
def bidA (n : Int) (bs : List (List Off)) (k : Nat) : List Int := (bidsC n bs).take k ++ List.replicate (bs.length - k) 0
theorem bidA_len {n : Int} {bs : List (List Off)} {k : Nat} (h : k ≤ bs.length) : (bidA n bs k).length = bs.length := by
  unfold bidA
  rw [List.length_append, List.length_take, bidsC_length, List.length_replicate]
  omega
theorem bidA_all (n : Int) (bs : List (List Off)) : bidA n bs bs.length = bidsC n bs := by
  unfold bidA
  rw [Nat.sub_self, List.replicate_zero, List.append_nil, List.take_of_length_le (by rw [bidsC_length]; omega)]
theorem bidA_set {n : Int} {bs : List (List Off)} {k : Nat} {c : Int} (hk : k < bs.length) (h : (bidsC n bs)[k]? = some c) : (bidA n bs k).set k c = bidA n bs (k + 1) := by
  have hl : ((bidsC n bs).take k).length = k := by rw [List.length_take, bidsC_length]; omega
  unfold bidA
  rw [List.set_append_right _ _ (by omega), hl, Nat.sub_self, show bs.length - k = (bs.length - (k + 1)) + 1 from by omega, List.replicate_succ, List.set_cons_zero, List.take_add_one, h]
  simp
theorem bidA_same {n : Int} {bs : List (List Off)} {k : Nat} (hk : k < bs.length) (h : (bidsC n bs)[k]? = some 0) : bidA n bs (k + 1) = bidA n bs k := by
  rw [← bidA_set hk h]
  have hl : ((bidsC n bs).take k).length = k := by rw [List.length_take, bidsC_length]; omega
  unfold bidA
  rw [List.set_append_right _ _ (by omega), hl, Nat.sub_self, show bs.length - k = (bs.length - (k + 1)) + 1 from by omega, List.replicate_succ, List.set_cons_zero]
theorem own_of_blk {w : World} {base g n : Nat} {e : TypeId} {l : List Int} (h : Blk w g e (ints l).toArray) (hg : base ≤ g) (hn : l.length = n) (hm : n ≤ maxLen) : w.ownsRow base e 1 (.slice (some ⟨g, 0, none⟩) n n) n (ints l) :=
  ⟨by simp [ints, hn], .inr ⟨g, n, _, rfl, hg, h, Nat.le_refl _, hm, by simp [ints, hn], by rw [Nat.mul_one]; exact List.take_of_length_le (by simp [ints, hn])⟩⟩
theorem ints_set {l : List Int} {k : Nat} {c : Int} : (ints l).toArray.setIfInBounds k (.int .i64 c) = (ints (l.set k c)).toArray := by simp [ints, List.map_set]
theorem ints_made (n : Nat) : madeCells #[.int .i64 0] n = (ints (List.replicate n 0)).toArray := by
  apply Array.ext
  · simp [madeCells, ints]
  · intro i h1 h2
    simp [madeCells, ints, Nat.mod_one]
theorem wonL_start (n : Int) (v sl : Value) : (wonL n v (winsL []) sl).toArray = #[.int .i64 n, v, .bool false, .bool false, .bool false, .bool false, .bool false, .bool false, .bool false, .bool false, .bool false, .bool false, .bool false, .bool false, .bool false, .bool false, .bool false, .bool false, .bool false, .bool false, .bool false, .bool false, .bool false, .bool false, .bool false, .bool false, .bool false, .bool false, .bool false, .bool false, .bool false, .bool false, .bool false, .bool false, sl] := rfl

/-- The pointer g is to what is won of the instance (n, v): its bids lie in blocks from lo on. -/
def WonAt (w : World) (lo g : Nat) (n : Int) (v : Value) (bs : List (List Off)) (A : Option Addr) (cap : Nat) : Prop :=
  lo ≤ g ∧ Blk w g 158 (wonL n v (winsL (bestC n bs)) (.slice A bs.length cap)).toArray ∧ w.ownsRow lo 2 1 (.slice A bs.length cap) bs.length (ints (bidsC n bs))

set_option maxRecDepth 100000 in
set_option maxHeartbeats 1600000 in
theorem of_ok (n : Int) (bs : List (List Off)) (v : Value) (R : Nat → Prop) (w : World) (hl : Buys w R v bs) (hi : instE n bs = 0) :
    Calls Try.prog 93 #[.agg #[.int .i64 n, v]] w fun e w' => ∃ g A cap, e = .returned (.tuple #[.pointer (some ⟨g, 0, none⟩), .int .i64 0]) ∧ WonAt w' w.heap.size g n v bs A cap ∧ Below w.heap.size w w' := by
  obtain ⟨vs, ⟨_, A, cap, rfl, _⟩, _⟩ := id hl
  have HB := Lib.hid hl
  have HI := Lib.hid hi
  have hl32 := (instE_zero hi).2.2.1
  clear hl hi
  go_enter Try.func93, Try.ntmps93
  go_wp2_with (go_at_call 31; refine (best_ok n bs _ R _ (HB.out.alloc _) HI.out).mono ?_; rintro e w1 ⟨AC, cC, rfl, hown, hb1⟩; have HO := Lib.hid hown; have hX := (one_blk' hb1).1; have HX := Lib.hid hX; have HB1 := Lib.hid (one_blk' hb1).2.2; have hs1 := (one_blk' hb1).2.1; clear hb1 hown hX)
  obtain ⟨W1, hW1⟩ : ∃ W1, W1 = w1.alloc (.cells #[.slice AC bs.length cC, .int .i64 (W bs (allOf n))] 66) := ⟨_, rfl⟩
  have HX1 := Lib.hid (show Blk W1 w.heap.size _ _ from by rw [hW1]; exact HX.out.alloc _)
  have HC1 := Lib.hid (show Blk W1 w1.heap.size 66 #[.slice AC bs.length cC, .int .i64 (W bs (allOf n))] from by rw [hW1]; exact Blk.new w1 _ _)
  have HO1 := Lib.hid (show W1.ownsRow _ _ _ _ _ _ from by rw [hW1]; exact own_alloc HO.out _)
  have HBW1 := Lib.hid (show Below w.heap.size w W1 from by rw [hW1]; exact HB1.out.alloc (by omega) _)
  have HBX1 := Lib.hid (show Below w1.heap.size w1 W1 from by rw [hW1]; exact (Below.refl _ _).alloc (Nat.le_refl _) _)
  have hsW : W1.heap.size = w1.heap.size + 1 := by rw [hW1]; simp
  rw [← hW1]
  clear hW1
  have x0 : W1.cell? ⟨w.heap.size, 0, none⟩ = some (.int .i64 n) := HX1.out.cell 0
  have x1 : W1.cell? ⟨w.heap.size, 1, none⟩ = some (.slice A bs.length cap) := HX1.out.cell 1
  have hmk : ∀ V : World, (Instr.makeSlice 34 (.int .i64 (bs.length : Int)) (.int .i64 (bs.length : Int))).run Try.prog V = .ok (.slice (some ⟨V.heap.size, 0, none⟩) bs.length bs.length) (V.alloc (.cells (madeCells #[.int .i64 0] bs.length) 2)) := fun V =>
    run_make_row' (P := Try.prog) 34 2 (.int .i64 0) 8 Try.underlying34 (by kernel_rfl) rfl .i64 .i64 bs.length (by omega) (by omega) V
  refine wp_region_F (Below W1.heap.size W1) [] (by kernel_rfl) ((Below.refl _ _).drew) (fun hS => ?_)
  refine wpAnyF_take (i := 0) (oi := { dst := some 17, op := Go.Op.load 24 (Go.Operand.tmp 1), type := 24, pos := "core.go:24", after := #[], guard := none }) (v := ?_) rfl (by kernel_rfl) (by kernel_rfl) (by kernel_rfl) (by kernel_rfl) (fun _ _ _ h => h) (Or.inl ⟨by rfl, ?_⟩) hS ?_
  rotate_left
  · intro w' hSw; have q1 := (hSw.cell (p := ⟨w.heap.size, 0, none⟩) (by simp <;> omega)).trans x0; have q2 := (hSw.cell (p := ⟨w.heap.size, 1, none⟩) (by simp <;> omega)).trans x1; go_simp; try with_reducible rfl
  try simp only [Act.put, List.setIfInBounds_toArray, List.set_cons_zero, List.set_cons_succ]
  refine wpAnyF_take (i := 1) (oi := { dst := some 18, op := Go.Op.fieldAddr 24 (Go.Operand.tmp 1) 1, type := 0, pos := "core.go:24", after := #[], guard := none }) (v := ?_) rfl (by kernel_rfl) (by kernel_rfl) (by kernel_rfl) (by kernel_rfl) (fun _ _ _ h => h) (Or.inl ⟨by rfl, ?_⟩) hS ?_
  rotate_left
  · intro w' hSw; have q1 := (hSw.cell (p := ⟨w.heap.size, 0, none⟩) (by simp <;> omega)).trans x0; have q2 := (hSw.cell (p := ⟨w.heap.size, 1, none⟩) (by simp <;> omega)).trans x1; go_simp; try with_reducible rfl
  try simp only [Act.put, List.setIfInBounds_toArray, List.set_cons_zero, List.set_cons_succ]
  refine wpAnyF_take (i := 2) (oi := { dst := some 19, op := Go.Op.load 22 (Go.Operand.tmp 18), type := 22, pos := "core.go:24", after := #[{ on := 1, ground := Go.Ground.data }], guard := none }) (v := ?_) rfl (by kernel_rfl) (by kernel_rfl) (by kernel_rfl) (by kernel_rfl) (fun _ _ _ h => h) (Or.inl ⟨by rfl, ?_⟩) hS ?_
  rotate_left
  · intro w' hSw; have q1 := (hSw.cell (p := ⟨w.heap.size, 0, none⟩) (by simp <;> omega)).trans x0; have q2 := (hSw.cell (p := ⟨w.heap.size, 1, none⟩) (by simp <;> omega)).trans x1; go_simp; try with_reducible rfl
  try simp only [Act.put, List.setIfInBounds_toArray, List.set_cons_zero, List.set_cons_succ]
  refine wpAnyF_take (i := 3) (oi := { dst := some 20, op := Go.Op.call { callee := Go.Callee.builtin Go.Builtin.len, args := #[Go.Operand.tmp 19], argTypes := #[22] }, type := 3, pos := "core.go:24", after := #[{ on := 2, ground := Go.Ground.data }], guard := none }) (v := ?_) rfl (by kernel_rfl) (by kernel_rfl) (by kernel_rfl) (by kernel_rfl) (fun _ _ _ h => h) (Or.inl ⟨by rfl, ?_⟩) hS ?_
  rotate_left
  · intro w' hSw; have q1 := (hSw.cell (p := ⟨w.heap.size, 0, none⟩) (by simp <;> omega)).trans x0; have q2 := (hSw.cell (p := ⟨w.heap.size, 1, none⟩) (by simp <;> omega)).trans x1; go_simp; try with_reducible rfl
  try simp only [Act.put, List.setIfInBounds_toArray, List.set_cons_zero, List.set_cons_succ]
  refine wpAnyF_ready (rs := [4]) (by kernel_rfl) (by simp) ?_
  refine AllReadyF.cons (o := { dst := some 21, op := Go.Op.makeSlice 34 (Go.Operand.tmp 20) (Go.Operand.tmp 20), type := 34, pos := "core.go:24", after := #[{ on := 3, ground := Go.Ground.data }, { on := 3, ground := Go.Ground.data }], guard := none }) rfl (by rfl) (fun K hK => ?_) ?_
  · go_simp
    refine hK.out _ _ ?_ (fun hS => ?_)
    · exact hS.alloc hS.size _
    clear hK K
    try simp only [Act.put, List.setIfInBounds_toArray, List.set_cons_zero, List.set_cons_succ]
    refine wpAnyF_take (i := 5) (oi := { dst := some 22, op := Go.Op.build 158 #[(0, Go.Operand.tmp 17), (2, Go.Operand.tmp 21)], type := 158, pos := "core.go:24", after := #[{ on := 0, ground := Go.Ground.data }, { on := 4, ground := Go.Ground.data }], guard := none }) (v := ?_) rfl (by kernel_rfl) (by kernel_rfl) (by kernel_rfl) (by kernel_rfl) (fun _ _ _ h => h) (Or.inl ⟨by rfl, ?_⟩) hS ?_
    rotate_left
    · intro w' hSw; have q1 := (hSw.cell (p := ⟨w.heap.size, 0, none⟩) (by simp <;> omega)).trans x0; have q2 := (hSw.cell (p := ⟨w.heap.size, 1, none⟩) (by simp <;> omega)).trans x1; go_simp; try with_reducible rfl
    try simp only [Act.put, List.setIfInBounds_toArray, List.set_cons_zero, List.set_cons_succ]
    refine wpAnyF_ready (rs := [6]) (by kernel_rfl) (by simp) ?_
    refine AllReadyF.cons (o := { dst := some 23, op := Go.Op.box 158 (Go.Operand.tmp 22), type := 153, pos := "core.go:24", after := #[{ on := 5, ground := Go.Ground.data }], guard := none }) rfl (by rfl) (fun K hK => ?_) ?_
    · go_simp
      refine hK.out _ _ ?_ (fun hS => ?_)
      · exact hS.alloc hS.size _
      clear hK K
      try simp only [Act.put, List.setIfInBounds_toArray, List.set_cons_zero, List.set_cons_succ]
      refine wpAnyF_take (i := 7) (oi := { dst := some 6, op := Go.Op.assign (Go.Operand.tmp 23), type := 153, pos := "core.go:24", after := #[{ on := 6, ground := Go.Ground.data }, { on := 0, ground := Go.Ground.phase }, { on := 1, ground := Go.Ground.phase }, { on := 2, ground := Go.Ground.phase }, { on := 3, ground := Go.Ground.phase }, { on := 4, ground := Go.Ground.phase }, { on := 5, ground := Go.Ground.phase }, { on := 6, ground := Go.Ground.phase }], guard := none }) (v := ?_) rfl (by kernel_rfl) (by kernel_rfl) (by kernel_rfl) (by kernel_rfl) (fun _ _ _ h => h) (Or.inl ⟨by rfl, ?_⟩) hS ?_
      rotate_left
      · intro w' hSw; have q1 := (hSw.cell (p := ⟨w.heap.size, 0, none⟩) (by simp <;> omega)).trans x0; have q2 := (hSw.cell (p := ⟨w.heap.size, 1, none⟩) (by simp <;> omega)).trans x1; go_simp; try with_reducible rfl
      try simp only [Act.put, List.setIfInBounds_toArray, List.set_cons_zero, List.set_cons_succ]
      refine wpAnyF_done (by kernel_rfl) ?_ _
      obtain ⟨W2, hW2⟩ : ∃ W2, W2 = ((W1.alloc (Obj.cells (madeCells #[.int .i64 0] bs.length) 2)).alloc (Obj.cells #[.int .i64 n, .slice A bs.length cap, .bool false, .bool false, .bool false, .bool false, .bool false, .bool false, .bool false, .bool false, .bool false, .bool false, .bool false, .bool false, .bool false, .bool false, .bool false, .bool false, .bool false, .bool false, .bool false, .bool false, .bool false, .bool false, .bool false, .bool false, .bool false, .bool false, .bool false, .bool false, .bool false, .bool false, .bool false, .bool false, .slice (some ⟨w1.heap.size + 1, 0, none⟩) bs.length bs.length] 158)).drew := ⟨_, rfl⟩
      rw [← hW2]
      have hs1b := hsW
      have HG := Lib.hid (show Blk W2 (w1.heap.size + 1) 2 (ints (bidA n bs 0)).toArray from by
        rw [hW2, show bidA n bs 0 = List.replicate bs.length 0 from by simp [bidA], ← ints_made]
        exact (((Blk.new' _ _ hsW).alloc _).drew))
      have HWN := Lib.hid (show Blk W2 (w1.heap.size + 2) 158 (wonL n (.slice A bs.length cap) (winsL ((bestC n bs).take 0)) (.slice (some ⟨w1.heap.size + 1, 0, none⟩) bs.length bs.length)).toArray from by
        rw [hW2, List.take_zero, wonL_start]
        exact (Blk.new' _ _ (by simp [hsW])).drew)
      have HB2 := Lib.hid (show Below W1.heap.size W1 W2 from by rw [hW2]; exact (((Below.refl _ _).alloc (Nat.le_refl _) _).alloc (by simp) _).drew)
      have hs2 : W1.heap.size + 2 ≤ W2.heap.size := by rw [hW2]; simp [World.drew]
      have HC2 := Lib.hid (HC1.out.grow HB2.out)
      have c00 : W2.cell? ⟨w1.heap.size, 0, none⟩ = some (.slice AC bs.length cC) := HC2.out.cell 0
      clear hW2 hmk hS
      go_wp2_with fail
      go_loopw [27] (fun i wr => ∃ k : Nat, k ≤ bs.length ∧ i = .int .i64 k ∧ Blk wr (w1.heap.size + 1) 2 (ints (bidA n bs k)).toArray ∧
          Blk wr (w1.heap.size + 2) 158 (wonL n (.slice A bs.length cap) (winsL ((bestC n bs).take k)) (.slice (some ⟨w1.heap.size + 1, 0, none⟩) bs.length bs.length)).toArray ∧ Below (w1.heap.size + 1) W2 wr)
        (fun i _ => bs.length - (intOf i).toNat)
      case atStart => exact ⟨0, Nat.zero_le _, rfl, HG.out, HWN.out, Below.refl _ _⟩
      case round =>
        obtain ⟨k, hk, rfl, hG, hN, hb⟩ := hrel
        have HG3 := Lib.hid hG
        have HN3 := Lib.hid hN
        have HB3 := Lib.hid hb
        clear hG hN hb
        by_cases hlt : k < bs.length
        · obtain ⟨c, hc⟩ : ∃ c, (bestC n bs)[k]? = some c := ⟨_, List.getElem?_eq_getElem (by rw [bestC, choose_length]; exact hlt)⟩
          have hbg := bidsC_get hc
          have hbx : Below w1.heap.size w1 wr := HBX1.out.trans ((HB2.out.mono (by omega)).trans (HB3.out.mono (by omega)))
          have hbw := HB1.out.trans (hbx.mono (B' := w.heap.size) (by omega))
          obtain ⟨gC, offC, c', hAC, hgC, hc', cc⟩ := (Sl.of_own HO.out).int_at hlt
          obtain rfl : c = c' := by rw [hc] at hc'; injection hc'
          subst hAC
          have cC := (hbx.cell (p := ⟨gC, offC + k, none⟩) hgC).trans cc
          have HBG := Lib.hid hbg
          have HC := Lib.hid hc
          have HBX := Lib.hid hbx
          have HBW := Lib.hid hbw
          clear hbg hbx hbw cc hc'
          rcases choose_get bs (allOf n) k c hc with rfl | ⟨j, l, o, rfl, hl, ho⟩
          · have hc0 : ((-1 : Int) ≥ 0) = False := by simp
            clear hc
            go_wp2
            go_roundw
            case rel =>
              refine ⟨k + 1, by omega, by go_num, ?_, ?_, HB3.out⟩
              · rw [bidA_same hlt HBG.out]
                exact HG3.out
              · rw [winsL_take_neg HC.out (by omega)]
                exact HN3.out
            case measure => simp [intOf]; omega
          · clear hc
            obtain ⟨vs', ⟨_, A', cap', hv, _, _, hcs⟩, hvs⟩ := HB.out
            injection hv with hv1 _ hv2
            subst hv1 hv2
            obtain ⟨bq, off, rfl, _, hbq, hcell⟩ := hcs (by omega)
            obtain ⟨u, hu, hoff⟩ := hvs k l hl
            have HL := Lib.hid hl
            have HOj := Lib.hid ho
            have hjl := (List.getElem?_eq_some_iff.mp ho).1
            obtain ⟨⟨_, A1, cap1, rfl, _⟩, _⟩ := id hoff
            obtain ⟨b2, off2, rfl, hb2, _, o1⟩ := hoff.at_ ho
            have d0 := (HBW.out.cell (p := ⟨bq, off + k, none⟩) hbq).trans (hcell _ _ hu)
            have d1 := (HBW.out.cell (p := ⟨b2, off2 + j * 2 + 1, none⟩) hb2).trans o1
            have x1' : wr.cell? ⟨w.heap.size, 1, none⟩ = some (.slice (some ⟨bq, off, none⟩) bs.length cap) := (HX.out.below HBX.out (by omega)).cell 1
            have hszr : w1.heap.size + 3 ≤ wr.heap.size := by have := HN3.out.lt; omega
            have e1 : (0 : Int) ≤ (k : Int) := by omega
            have e2 : (k : Int) < (bs.length : Int) := by omega
            have e3 : (k : Int) < 32 := by omega
            have e4 : (0 : Int) ≤ (j : Int) := by omega
            have e5 : (j : Int) < (l.length : Int) := by omega
            clear hl ho hu hoff o1 hcell hvs hcs
            go_wp2_with fail
            refine wp_region_F (fun V => Below (w1.heap.size + 1) wr V ∧ (∃ ws : List Bool, ws.length = 32 ∧ Blk V (w1.heap.size + 2) 158 (wonL n (.slice (some ⟨bq, off, none⟩) bs.length cap) ws (.slice (some ⟨w1.heap.size + 1, 0, none⟩) bs.length bs.length)).toArray) ∧ ∃ ps : List Int, ps.length = bs.length ∧ Blk V (w1.heap.size + 1) 2 (ints ps).toArray) [] (by kernel_rfl) ⟨(Below.refl _ _).drew, ⟨_, winsL_len _, HN3.out.drew⟩, _, bidA_len (by omega), HG3.out.drew⟩ (fun hS => ?_)
            refine wpAnyF_take (i := 0) (oi := { dst := some 34, op := Go.Op.move (Go.Operand.tmp 6), type := 153, pos := "core.go:27", after := #[], guard := none }) (v := ?_) rfl (by kernel_rfl) (by kernel_rfl) (by kernel_rfl) (by kernel_rfl) (fun _ _ _ h => h) (Or.inl ⟨by rfl, ?_⟩) hS ?_
            rotate_left
            · intro w' hSw; obtain ⟨hSb, ⟨ws, hwl, hSn⟩, _⟩ := hSw; have q1 := (hSb.cell (p := ⟨w.heap.size, 1, none⟩) (by simp <;> omega)).trans x1'; have q2 := (hSn.cell 34).trans (wonL_bid _ _ _ _ hwl); have q3 := (hSb.cell (p := ⟨bq, off + k, none⟩) (by simp <;> omega)).trans d0; have q4 := (hSb.cell (p := ⟨b2, off2 + j * 2 + 1, none⟩) (by simp <;> omega)).trans d1; go_simp; try with_reducible rfl
            try simp only [Act.put, List.setIfInBounds_toArray, List.set_cons_zero, List.set_cons_succ]
            refine wpAnyF_take (i := 1) (oi := { dst := some 35, op := Go.Op.move (Go.Operand.tmp 7), type := 3, pos := "core.go:27", after := #[], guard := none }) (v := ?_) rfl (by kernel_rfl) (by kernel_rfl) (by kernel_rfl) (by kernel_rfl) (fun _ _ _ h => h) (Or.inl ⟨by rfl, ?_⟩) hS ?_
            rotate_left
            · intro w' hSw; obtain ⟨hSb, ⟨ws, hwl, hSn⟩, _⟩ := hSw; have q1 := (hSb.cell (p := ⟨w.heap.size, 1, none⟩) (by simp <;> omega)).trans x1'; have q2 := (hSn.cell 34).trans (wonL_bid _ _ _ _ hwl); have q3 := (hSb.cell (p := ⟨bq, off + k, none⟩) (by simp <;> omega)).trans d0; have q4 := (hSb.cell (p := ⟨b2, off2 + j * 2 + 1, none⟩) (by simp <;> omega)).trans d1; go_simp; try with_reducible rfl
            try simp only [Act.put, List.setIfInBounds_toArray, List.set_cons_zero, List.set_cons_succ]
            refine wpAnyF_take (i := 2) (oi := { dst := some 36, op := Go.Op.move (Go.Operand.tmp 6), type := 153, pos := "core.go:27", after := #[], guard := none }) (v := ?_) rfl (by kernel_rfl) (by kernel_rfl) (by kernel_rfl) (by kernel_rfl) (fun _ _ _ h => h) (Or.inl ⟨by rfl, ?_⟩) hS ?_
            rotate_left
            · intro w' hSw; obtain ⟨hSb, ⟨ws, hwl, hSn⟩, _⟩ := hSw; have q1 := (hSb.cell (p := ⟨w.heap.size, 1, none⟩) (by simp <;> omega)).trans x1'; have q2 := (hSn.cell 34).trans (wonL_bid _ _ _ _ hwl); have q3 := (hSb.cell (p := ⟨bq, off + k, none⟩) (by simp <;> omega)).trans d0; have q4 := (hSb.cell (p := ⟨b2, off2 + j * 2 + 1, none⟩) (by simp <;> omega)).trans d1; go_simp; try with_reducible rfl
            try simp only [Act.put, List.setIfInBounds_toArray, List.set_cons_zero, List.set_cons_succ]
            refine wpAnyF_take (i := 3) (oi := { dst := some 37, op := Go.Op.nilCheck (Go.Operand.tmp 36), type := 0, pos := "core.go:27", after := #[{ on := 2, ground := Go.Ground.data }], guard := none }) (v := ?_) rfl (by kernel_rfl) (by kernel_rfl) (by kernel_rfl) (by kernel_rfl) (fun _ _ _ h => h) (Or.inl ⟨by rfl, ?_⟩) hS ?_
            rotate_left
            · intro w' hSw; obtain ⟨hSb, ⟨ws, hwl, hSn⟩, _⟩ := hSw; have q1 := (hSb.cell (p := ⟨w.heap.size, 1, none⟩) (by simp <;> omega)).trans x1'; have q2 := (hSn.cell 34).trans (wonL_bid _ _ _ _ hwl); have q3 := (hSb.cell (p := ⟨bq, off + k, none⟩) (by simp <;> omega)).trans d0; have q4 := (hSb.cell (p := ⟨b2, off2 + j * 2 + 1, none⟩) (by simp <;> omega)).trans d1; go_simp; try with_reducible rfl
            try simp only [Act.put, List.setIfInBounds_toArray, List.set_cons_zero, List.set_cons_succ]
            refine wpAnyF_take (i := 4) (oi := { dst := some 38, op := Go.Op.fieldAddr 158 (Go.Operand.tmp 37) 2, type := 0, pos := "core.go:27", after := #[{ on := 3, ground := Go.Ground.data }], guard := none }) (v := ?_) rfl (by kernel_rfl) (by kernel_rfl) (by kernel_rfl) (by kernel_rfl) (fun _ _ _ h => h) (Or.inl ⟨by rfl, ?_⟩) hS ?_
            rotate_left
            · intro w' hSw; obtain ⟨hSb, ⟨ws, hwl, hSn⟩, _⟩ := hSw; have q1 := (hSb.cell (p := ⟨w.heap.size, 1, none⟩) (by simp <;> omega)).trans x1'; have q2 := (hSn.cell 34).trans (wonL_bid _ _ _ _ hwl); have q3 := (hSb.cell (p := ⟨bq, off + k, none⟩) (by simp <;> omega)).trans d0; have q4 := (hSb.cell (p := ⟨b2, off2 + j * 2 + 1, none⟩) (by simp <;> omega)).trans d1; go_simp; try with_reducible rfl
            try simp only [Act.put, List.setIfInBounds_toArray, List.set_cons_zero, List.set_cons_succ]
            refine wpAnyF_take (i := 5) (oi := { dst := some 39, op := Go.Op.load 34 (Go.Operand.tmp 38), type := 34, pos := "core.go:27", after := #[{ on := 4, ground := Go.Ground.data }], guard := none }) (v := ?_) rfl (by kernel_rfl) (by kernel_rfl) (by kernel_rfl) (by kernel_rfl) (fun _ _ _ h => h) (Or.inl ⟨by rfl, ?_⟩) hS ?_
            rotate_left
            · intro w' hSw; obtain ⟨hSb, ⟨ws, hwl, hSn⟩, _⟩ := hSw; have q1 := (hSb.cell (p := ⟨w.heap.size, 1, none⟩) (by simp <;> omega)).trans x1'; have q2 := (hSn.cell 34).trans (wonL_bid _ _ _ _ hwl); have q3 := (hSb.cell (p := ⟨bq, off + k, none⟩) (by simp <;> omega)).trans d0; have q4 := (hSb.cell (p := ⟨b2, off2 + j * 2 + 1, none⟩) (by simp <;> omega)).trans d1; go_simp; try with_reducible rfl
            try simp only [Act.put, List.setIfInBounds_toArray, List.set_cons_zero, List.set_cons_succ]
            refine wpAnyF_take (i := 6) (oi := { dst := some 40, op := Go.Op.move (Go.Operand.tmp 7), type := 3, pos := "core.go:27", after := #[{ on := 19, ground := Go.Ground.gcOnly Go.Departure.lateStores }], guard := none }) (v := ?_) rfl (by kernel_rfl) (by kernel_rfl) (by kernel_rfl) (by kernel_rfl) (fun _ _ _ h => h) (Or.inl ⟨by rfl, ?_⟩) hS ?_
            rotate_left
            · intro w' hSw; obtain ⟨hSb, ⟨ws, hwl, hSn⟩, _⟩ := hSw; have q1 := (hSb.cell (p := ⟨w.heap.size, 1, none⟩) (by simp <;> omega)).trans x1'; have q2 := (hSn.cell 34).trans (wonL_bid _ _ _ _ hwl); have q3 := (hSb.cell (p := ⟨bq, off + k, none⟩) (by simp <;> omega)).trans d0; have q4 := (hSb.cell (p := ⟨b2, off2 + j * 2 + 1, none⟩) (by simp <;> omega)).trans d1; go_simp; try with_reducible rfl
            try simp only [Act.put, List.setIfInBounds_toArray, List.set_cons_zero, List.set_cons_succ]
            refine wpAnyF_take (i := 7) (oi := { dst := some 41, op := Go.Op.fieldAddr 24 (Go.Operand.tmp 1) 1, type := 0, pos := "core.go:27", after := #[], guard := none }) (v := ?_) rfl (by kernel_rfl) (by kernel_rfl) (by kernel_rfl) (by kernel_rfl) (fun _ _ _ h => h) (Or.inl ⟨by rfl, ?_⟩) hS ?_
            rotate_left
            · intro w' hSw; obtain ⟨hSb, ⟨ws, hwl, hSn⟩, _⟩ := hSw; have q1 := (hSb.cell (p := ⟨w.heap.size, 1, none⟩) (by simp <;> omega)).trans x1'; have q2 := (hSn.cell 34).trans (wonL_bid _ _ _ _ hwl); have q3 := (hSb.cell (p := ⟨bq, off + k, none⟩) (by simp <;> omega)).trans d0; have q4 := (hSb.cell (p := ⟨b2, off2 + j * 2 + 1, none⟩) (by simp <;> omega)).trans d1; go_simp; try with_reducible rfl
            try simp only [Act.put, List.setIfInBounds_toArray, List.set_cons_zero, List.set_cons_succ]
            refine wpAnyF_take (i := 8) (oi := { dst := some 42, op := Go.Op.load 22 (Go.Operand.tmp 41), type := 22, pos := "core.go:27", after := #[{ on := 7, ground := Go.Ground.data }], guard := none }) (v := ?_) rfl (by kernel_rfl) (by kernel_rfl) (by kernel_rfl) (by kernel_rfl) (fun _ _ _ h => h) (Or.inl ⟨by rfl, ?_⟩) hS ?_
            rotate_left
            · intro w' hSw; obtain ⟨hSb, ⟨ws, hwl, hSn⟩, _⟩ := hSw; have q1 := (hSb.cell (p := ⟨w.heap.size, 1, none⟩) (by simp <;> omega)).trans x1'; have q2 := (hSn.cell 34).trans (wonL_bid _ _ _ _ hwl); have q3 := (hSb.cell (p := ⟨bq, off + k, none⟩) (by simp <;> omega)).trans d0; have q4 := (hSb.cell (p := ⟨b2, off2 + j * 2 + 1, none⟩) (by simp <;> omega)).trans d1; go_simp; try with_reducible rfl
            try simp only [Act.put, List.setIfInBounds_toArray, List.set_cons_zero, List.set_cons_succ]
            refine wpAnyF_take (i := 9) (oi := { dst := some 43, op := Go.Op.move (Go.Operand.tmp 7), type := 3, pos := "core.go:27", after := #[], guard := none }) (v := ?_) rfl (by kernel_rfl) (by kernel_rfl) (by kernel_rfl) (by kernel_rfl) (fun _ _ _ h => h) (Or.inl ⟨by rfl, ?_⟩) hS ?_
            rotate_left
            · intro w' hSw; obtain ⟨hSb, ⟨ws, hwl, hSn⟩, _⟩ := hSw; have q1 := (hSb.cell (p := ⟨w.heap.size, 1, none⟩) (by simp <;> omega)).trans x1'; have q2 := (hSn.cell 34).trans (wonL_bid _ _ _ _ hwl); have q3 := (hSb.cell (p := ⟨bq, off + k, none⟩) (by simp <;> omega)).trans d0; have q4 := (hSb.cell (p := ⟨b2, off2 + j * 2 + 1, none⟩) (by simp <;> omega)).trans d1; go_simp; try with_reducible rfl
            try simp only [Act.put, List.setIfInBounds_toArray, List.set_cons_zero, List.set_cons_succ]
            refine wpAnyF_take (i := 10) (oi := { dst := some 44, op := Go.Op.indexAddr 22 (Go.Operand.tmp 42) (Go.Operand.tmp 43), type := 0, pos := "core.go:27", after := #[{ on := 8, ground := Go.Ground.data }, { on := 9, ground := Go.Ground.data }], guard := none }) (v := ?_) rfl (by kernel_rfl) (by kernel_rfl) (by kernel_rfl) (by kernel_rfl) (fun _ _ _ h => h) (Or.inl ⟨by rfl, ?_⟩) hS ?_
            rotate_left
            · intro w' hSw; obtain ⟨hSb, ⟨ws, hwl, hSn⟩, _⟩ := hSw; have q1 := (hSb.cell (p := ⟨w.heap.size, 1, none⟩) (by simp <;> omega)).trans x1'; have q2 := (hSn.cell 34).trans (wonL_bid _ _ _ _ hwl); have q3 := (hSb.cell (p := ⟨bq, off + k, none⟩) (by simp <;> omega)).trans d0; have q4 := (hSb.cell (p := ⟨b2, off2 + j * 2 + 1, none⟩) (by simp <;> omega)).trans d1; go_simp; try with_reducible rfl
            try simp only [Act.put, List.setIfInBounds_toArray, List.set_cons_zero, List.set_cons_succ]
            refine wpAnyF_take (i := 11) (oi := { dst := some 45, op := Go.Op.load 41 (Go.Operand.tmp 44), type := 41, pos := "core.go:27", after := #[{ on := 10, ground := Go.Ground.data }], guard := none }) (v := ?_) rfl (by kernel_rfl) (by kernel_rfl) (by kernel_rfl) (by kernel_rfl) (fun _ _ _ h => h) (Or.inl ⟨by rfl, ?_⟩) hS ?_
            rotate_left
            · intro w' hSw; obtain ⟨hSb, ⟨ws, hwl, hSn⟩, _⟩ := hSw; have q1 := (hSb.cell (p := ⟨w.heap.size, 1, none⟩) (by simp <;> omega)).trans x1'; have q2 := (hSn.cell 34).trans (wonL_bid _ _ _ _ hwl); have q3 := (hSb.cell (p := ⟨bq, off + k, none⟩) (by simp <;> omega)).trans d0; have q4 := (hSb.cell (p := ⟨b2, off2 + j * 2 + 1, none⟩) (by simp <;> omega)).trans d1; go_simp; try with_reducible rfl
            try simp only [Act.put, List.setIfInBounds_toArray, List.set_cons_zero, List.set_cons_succ]
            refine wpAnyF_take (i := 12) (oi := { dst := some 46, op := Go.Op.move (Go.Operand.tmp 8), type := 3, pos := "core.go:27", after := #[], guard := none }) (v := ?_) rfl (by kernel_rfl) (by kernel_rfl) (by kernel_rfl) (by kernel_rfl) (fun _ _ _ h => h) (Or.inl ⟨by rfl, ?_⟩) hS ?_
            rotate_left
            · intro w' hSw; obtain ⟨hSb, ⟨ws, hwl, hSn⟩, _⟩ := hSw; have q1 := (hSb.cell (p := ⟨w.heap.size, 1, none⟩) (by simp <;> omega)).trans x1'; have q2 := (hSn.cell 34).trans (wonL_bid _ _ _ _ hwl); have q3 := (hSb.cell (p := ⟨bq, off + k, none⟩) (by simp <;> omega)).trans d0; have q4 := (hSb.cell (p := ⟨b2, off2 + j * 2 + 1, none⟩) (by simp <;> omega)).trans d1; go_simp; try with_reducible rfl
            try simp only [Act.put, List.setIfInBounds_toArray, List.set_cons_zero, List.set_cons_succ]
            refine wpAnyF_take (i := 13) (oi := { dst := some 47, op := Go.Op.indexAddr 41 (Go.Operand.tmp 45) (Go.Operand.tmp 46), type := 0, pos := "core.go:27", after := #[{ on := 11, ground := Go.Ground.data }, { on := 12, ground := Go.Ground.data }], guard := none }) (v := ?_) rfl (by kernel_rfl) (by kernel_rfl) (by kernel_rfl) (by kernel_rfl) (fun _ _ _ h => h) (Or.inl ⟨by rfl, ?_⟩) hS ?_
            rotate_left
            · intro w' hSw; obtain ⟨hSb, ⟨ws, hwl, hSn⟩, _⟩ := hSw; have q1 := (hSb.cell (p := ⟨w.heap.size, 1, none⟩) (by simp <;> omega)).trans x1'; have q2 := (hSn.cell 34).trans (wonL_bid _ _ _ _ hwl); have q3 := (hSb.cell (p := ⟨bq, off + k, none⟩) (by simp <;> omega)).trans d0; have q4 := (hSb.cell (p := ⟨b2, off2 + j * 2 + 1, none⟩) (by simp <;> omega)).trans d1; go_simp; try with_reducible rfl
            try simp only [Act.put, List.setIfInBounds_toArray, List.set_cons_zero, List.set_cons_succ]
            refine wpAnyF_take (i := 14) (oi := { dst := some 48, op := Go.Op.fieldAddr 45 (Go.Operand.tmp 47) 1, type := 0, pos := "core.go:27", after := #[{ on := 13, ground := Go.Ground.data }], guard := none }) (v := ?_) rfl (by kernel_rfl) (by kernel_rfl) (by kernel_rfl) (by kernel_rfl) (fun _ _ _ h => h) (Or.inl ⟨by rfl, ?_⟩) hS ?_
            rotate_left
            · intro w' hSw; obtain ⟨hSb, ⟨ws, hwl, hSn⟩, _⟩ := hSw; have q1 := (hSb.cell (p := ⟨w.heap.size, 1, none⟩) (by simp <;> omega)).trans x1'; have q2 := (hSn.cell 34).trans (wonL_bid _ _ _ _ hwl); have q3 := (hSb.cell (p := ⟨bq, off + k, none⟩) (by simp <;> omega)).trans d0; have q4 := (hSb.cell (p := ⟨b2, off2 + j * 2 + 1, none⟩) (by simp <;> omega)).trans d1; go_simp; try with_reducible rfl
            try simp only [Act.put, List.setIfInBounds_toArray, List.set_cons_zero, List.set_cons_succ]
            refine wpAnyF_take (i := 15) (oi := { dst := some 49, op := Go.Op.load 2 (Go.Operand.tmp 48), type := 2, pos := "core.go:27", after := #[{ on := 14, ground := Go.Ground.data }], guard := none }) (v := ?_) rfl (by kernel_rfl) (by kernel_rfl) (by kernel_rfl) (by kernel_rfl) (fun _ _ _ h => h) (Or.inl ⟨by rfl, ?_⟩) hS ?_
            rotate_left
            · intro w' hSw; obtain ⟨hSb, ⟨ws, hwl, hSn⟩, _⟩ := hSw; have q1 := (hSb.cell (p := ⟨w.heap.size, 1, none⟩) (by simp <;> omega)).trans x1'; have q2 := (hSn.cell 34).trans (wonL_bid _ _ _ _ hwl); have q3 := (hSb.cell (p := ⟨bq, off + k, none⟩) (by simp <;> omega)).trans d0; have q4 := (hSb.cell (p := ⟨b2, off2 + j * 2 + 1, none⟩) (by simp <;> omega)).trans d1; go_simp; try with_reducible rfl
            try simp only [Act.put, List.setIfInBounds_toArray, List.set_cons_zero, List.set_cons_succ]
            refine wpAnyF_take (i := 16) (oi := { dst := some 50, op := Go.Op.nilCheck (Go.Operand.tmp 34), type := 0, pos := "core.go:27", after := #[{ on := 0, ground := Go.Ground.data }], guard := none }) (v := ?_) rfl (by kernel_rfl) (by kernel_rfl) (by kernel_rfl) (by kernel_rfl) (fun _ _ _ h => h) (Or.inl ⟨by rfl, ?_⟩) hS ?_
            rotate_left
            · intro w' hSw; obtain ⟨hSb, ⟨ws, hwl, hSn⟩, _⟩ := hSw; have q1 := (hSb.cell (p := ⟨w.heap.size, 1, none⟩) (by simp <;> omega)).trans x1'; have q2 := (hSn.cell 34).trans (wonL_bid _ _ _ _ hwl); have q3 := (hSb.cell (p := ⟨bq, off + k, none⟩) (by simp <;> omega)).trans d0; have q4 := (hSb.cell (p := ⟨b2, off2 + j * 2 + 1, none⟩) (by simp <;> omega)).trans d1; go_simp; try with_reducible rfl
            try simp only [Act.put, List.setIfInBounds_toArray, List.set_cons_zero, List.set_cons_succ]
            refine wpAnyF_take (i := 17) (oi := { dst := some 51, op := Go.Op.fieldAddr 158 (Go.Operand.tmp 50) 1, type := 0, pos := "core.go:27", after := #[{ on := 16, ground := Go.Ground.data }], guard := none }) (v := ?_) rfl (by kernel_rfl) (by kernel_rfl) (by kernel_rfl) (by kernel_rfl) (fun _ _ _ h => h) (Or.inl ⟨by rfl, ?_⟩) hS ?_
            rotate_left
            · intro w' hSw; obtain ⟨hSb, ⟨ws, hwl, hSn⟩, _⟩ := hSw; have q1 := (hSb.cell (p := ⟨w.heap.size, 1, none⟩) (by simp <;> omega)).trans x1'; have q2 := (hSn.cell 34).trans (wonL_bid _ _ _ _ hwl); have q3 := (hSb.cell (p := ⟨bq, off + k, none⟩) (by simp <;> omega)).trans d0; have q4 := (hSb.cell (p := ⟨b2, off2 + j * 2 + 1, none⟩) (by simp <;> omega)).trans d1; go_simp; try with_reducible rfl
            try simp only [Act.put, List.setIfInBounds_toArray, List.set_cons_zero, List.set_cons_succ]
            refine wpAnyF_take (i := 18) (oi := { dst := some 52, op := Go.Op.indexAddr 156 (Go.Operand.tmp 51) (Go.Operand.tmp 35), type := 0, pos := "core.go:27", after := #[{ on := 17, ground := Go.Ground.data }, { on := 1, ground := Go.Ground.data }, { on := 0, ground := Go.Ground.phase }, { on := 1, ground := Go.Ground.phase }, { on := 2, ground := Go.Ground.textOnly Go.Departure.lateStores }, { on := 3, ground := Go.Ground.textOnly Go.Departure.lateStoresUnsure }, { on := 4, ground := Go.Ground.textOnly Go.Departure.lateStoresUnsure }, { on := 5, ground := Go.Ground.phase }, { on := 6, ground := Go.Ground.textOnly Go.Departure.lateStores }, { on := 7, ground := Go.Ground.textOnly Go.Departure.lateStores }, { on := 8, ground := Go.Ground.textOnly Go.Departure.lateStores }, { on := 9, ground := Go.Ground.textOnly Go.Departure.lateStores }, { on := 10, ground := Go.Ground.textOnly Go.Departure.lateStoresUnsure }, { on := 11, ground := Go.Ground.phase }, { on := 12, ground := Go.Ground.textOnly Go.Departure.lateStores }, { on := 13, ground := Go.Ground.textOnly Go.Departure.lateStoresUnsure }, { on := 14, ground := Go.Ground.textOnly Go.Departure.lateStoresUnsure }, { on := 15, ground := Go.Ground.phase }], guard := none }) (v := ?_) rfl (by kernel_rfl) (by kernel_rfl) (by kernel_rfl) (by kernel_rfl) (fun _ _ _ h => h) (Or.inl ⟨by rfl, ?_⟩) hS ?_
            rotate_left
            · intro w' hSw; obtain ⟨hSb, ⟨ws, hwl, hSn⟩, _⟩ := hSw; have q1 := (hSb.cell (p := ⟨w.heap.size, 1, none⟩) (by simp <;> omega)).trans x1'; have q2 := (hSn.cell 34).trans (wonL_bid _ _ _ _ hwl); have q3 := (hSb.cell (p := ⟨bq, off + k, none⟩) (by simp <;> omega)).trans d0; have q4 := (hSb.cell (p := ⟨b2, off2 + j * 2 + 1, none⟩) (by simp <;> omega)).trans d1; go_simp; try with_reducible rfl
            try simp only [Act.put, List.setIfInBounds_toArray, List.set_cons_zero, List.set_cons_succ]
            refine wpAnyF_ready (rs := [19]) (by kernel_rfl) (by simp) ?_
            refine AllReadyF.cons (o := { dst := none, op := Go.Op.store 4 (Go.Operand.tmp 52) (Go.Operand.const (Go.Value.bool true)), type := 0, pos := "core.go:27", after := #[{ on := 18, ground := Go.Ground.data }, { on := 0, ground := Go.Ground.phase }, { on := 1, ground := Go.Ground.phase }, { on := 2, ground := Go.Ground.textOnly Go.Departure.lateStores }, { on := 3, ground := Go.Ground.textOnly Go.Departure.lateStoresUnsure }, { on := 4, ground := Go.Ground.textOnly Go.Departure.lateStoresUnsure }, { on := 5, ground := Go.Ground.phase }, { on := 6, ground := Go.Ground.textOnly Go.Departure.lateStores }, { on := 7, ground := Go.Ground.textOnly Go.Departure.lateStores }, { on := 8, ground := Go.Ground.textOnly Go.Departure.lateStores }, { on := 9, ground := Go.Ground.textOnly Go.Departure.lateStores }, { on := 10, ground := Go.Ground.textOnly Go.Departure.lateStoresUnsure }, { on := 11, ground := Go.Ground.phase }, { on := 12, ground := Go.Ground.textOnly Go.Departure.lateStores }, { on := 13, ground := Go.Ground.textOnly Go.Departure.lateStoresUnsure }, { on := 14, ground := Go.Ground.textOnly Go.Departure.lateStoresUnsure }, { on := 15, ground := Go.Ground.phase }], guard := none }) rfl (by rfl) (fun K hK => ?_) ?_
            · have hS19 := hS
              obtain ⟨_, ⟨ws, hwl, hSn⟩, _⟩ := hS19
              have f1 := hSn.frozen (2 + k)
              have f2 := (hSn.cell (2 + k)).trans (wonL_win _ _ _ _ k _ (List.getElem?_eq_getElem (by omega)))
              go_simp
              refine hK.out _ _ ?_ (fun hS => ?_)
              · obtain ⟨hSb, ⟨ws, hwl, hSn⟩, ps, hpl, hSg⟩ := hS
                exact ⟨hSb.setCell (p := ⟨w1.heap.size + 2, 2 + k, none⟩) (by simp) _, ⟨ws.set k true, by simpa using hwl, by have := hSn.set_ (2 + k) (.bool true); rwa [wonL_set _ _ _ _ _ _ (by omega)] at this⟩, ps, hpl, hSg.far (p := ⟨w1.heap.size + 2, 2 + k, none⟩) (by simp) _⟩
              clear hK K
              try simp only [Act.put, List.setIfInBounds_toArray, List.set_cons_zero, List.set_cons_succ]
              refine wpAnyF_take (i := 20) (oi := { dst := some 53, op := Go.Op.indexAddr 34 (Go.Operand.tmp 39) (Go.Operand.tmp 40), type := 0, pos := "core.go:27", after := #[{ on := 5, ground := Go.Ground.data }, { on := 6, ground := Go.Ground.data }, { on := 0, ground := Go.Ground.phase }, { on := 1, ground := Go.Ground.phase }, { on := 2, ground := Go.Ground.phase }, { on := 3, ground := Go.Ground.phase }, { on := 4, ground := Go.Ground.phase }, { on := 5, ground := Go.Ground.phase }, { on := 6, ground := Go.Ground.phase }, { on := 7, ground := Go.Ground.phase }, { on := 8, ground := Go.Ground.phase }, { on := 9, ground := Go.Ground.phase }, { on := 10, ground := Go.Ground.phase }, { on := 11, ground := Go.Ground.phase }, { on := 12, ground := Go.Ground.phase }, { on := 13, ground := Go.Ground.phase }, { on := 14, ground := Go.Ground.phase }, { on := 15, ground := Go.Ground.phase }, { on := 16, ground := Go.Ground.phase }, { on := 17, ground := Go.Ground.phase }, { on := 18, ground := Go.Ground.phase }, { on := 19, ground := Go.Ground.phase }], guard := none }) (v := ?_) rfl (by kernel_rfl) (by kernel_rfl) (by kernel_rfl) (by kernel_rfl) (fun _ _ _ h => h) (Or.inl ⟨by rfl, ?_⟩) hS ?_
              rotate_left
              · intro w' hSw; obtain ⟨hSb, ⟨ws, hwl, hSn⟩, _⟩ := hSw; have q1 := (hSb.cell (p := ⟨w.heap.size, 1, none⟩) (by simp <;> omega)).trans x1'; have q2 := (hSn.cell 34).trans (wonL_bid _ _ _ _ hwl); have q3 := (hSb.cell (p := ⟨bq, off + k, none⟩) (by simp <;> omega)).trans d0; have q4 := (hSb.cell (p := ⟨b2, off2 + j * 2 + 1, none⟩) (by simp <;> omega)).trans d1; go_simp; try with_reducible rfl
              try simp only [Act.put, List.setIfInBounds_toArray, List.set_cons_zero, List.set_cons_succ]
              refine wpAnyF_ready (rs := [21]) (by kernel_rfl) (by simp) ?_
              refine AllReadyF.cons (o := { dst := none, op := Go.Op.store 2 (Go.Operand.tmp 53) (Go.Operand.tmp 49), type := 0, pos := "core.go:27", after := #[{ on := 20, ground := Go.Ground.data }, { on := 15, ground := Go.Ground.data }, { on := 19, ground := Go.Ground.chain }, { on := 0, ground := Go.Ground.phase }, { on := 1, ground := Go.Ground.phase }, { on := 2, ground := Go.Ground.phase }, { on := 3, ground := Go.Ground.phase }, { on := 4, ground := Go.Ground.phase }, { on := 5, ground := Go.Ground.phase }, { on := 6, ground := Go.Ground.phase }, { on := 7, ground := Go.Ground.phase }, { on := 8, ground := Go.Ground.phase }, { on := 9, ground := Go.Ground.phase }, { on := 10, ground := Go.Ground.phase }, { on := 11, ground := Go.Ground.phase }, { on := 12, ground := Go.Ground.phase }, { on := 13, ground := Go.Ground.phase }, { on := 14, ground := Go.Ground.phase }, { on := 15, ground := Go.Ground.phase }, { on := 16, ground := Go.Ground.phase }, { on := 17, ground := Go.Ground.phase }, { on := 18, ground := Go.Ground.phase }, { on := 19, ground := Go.Ground.phase }], guard := none }) rfl (by rfl) (fun K hK => ?_) ?_
              · have hS21 := hS
                obtain ⟨_, _, ps, hpl, hSg⟩ := hS21
                have f1 := hSg.frozen k
                have hkp : k < ps.length := by omega
                have f2 := (hSg.cell k).trans (show (ints ps).toArray[k]? = some (.int .i64 ps[k]) from by simp [ints])
                go_simp
                refine hK.out _ _ ?_ (fun hS => ?_)
                · obtain ⟨hSb, ⟨ws, hwl, hSn⟩, ps, hpl, hSg⟩ := hS
                  exact ⟨hSb.setCell (p := ⟨w1.heap.size + 1, k, none⟩) (by simp) _, ⟨ws, hwl, hSn.far (p := ⟨w1.heap.size + 1, k, none⟩) (by simp) _⟩, ps.set k o.c, by simpa using hpl, by have := hSg.set_ k (.int .i64 o.c); rwa [ints_set] at this⟩
                clear hK K
                try simp only [Act.put, List.setIfInBounds_toArray, List.set_cons_zero, List.set_cons_succ]
                refine wpAnyF_done (by kernel_rfl) ?_ _
                clear hS
                go_wp2_with fail
                go_roundw
                case rel =>
                  refine ⟨k + 1, by omega, by go_num, ?_, ?_, ?_⟩
                  · have h1 := (HG3.out.far (p := ⟨w1.heap.size + 2, 2 + k, none⟩) (by simp) (.bool true)).set_ k (.int .i64 o.c)
                    rw [ints_set, bidA_set hlt (by rw [HBG.out, coinAt_some HL.out HOj.out])] at h1
                    exact h1.drew
                  · have h1 := (HN3.out.set_ (2 + k) (.bool true)).far (p := ⟨w1.heap.size + 1, k, none⟩) (by simp) (.int .i64 o.c)
                    rw [wonL_set _ _ _ _ _ _ (by rw [winsL_len]; omega), ← winsL_take_pos HC.out (by omega)] at h1
                    exact h1.drew
                  · exact ((HB3.out.setCell (p := ⟨w1.heap.size + 2, 2 + k, none⟩) (by simp) _).setCell (p := ⟨w1.heap.size + 1, k, none⟩) (by simp) _).drew
                case measure => simp [intOf]; omega
              exact AllReadyF.nil
            exact AllReadyF.nil
        · obtain rfl : k = bs.length := by omega
          have hbl : (bestC n bs).length = bs.length := choose_length _ _
          have HGE := Lib.hid (show Blk wr (w1.heap.size + 1) 2 (ints (bidsC n bs)).toArray from by have := HG3.out; rwa [bidA_all] at this)
          have HNE := Lib.hid (show Blk wr (w1.heap.size + 2) 158 (wonL n (.slice A bs.length cap) (winsL (bestC n bs)) (.slice (some ⟨w1.heap.size + 1, 0, none⟩) bs.length bs.length)).toArray from by have := HN3.out; rwa [List.take_of_length_le (by omega)] at this)
          go_wp2_with fail
          refine bodyPost_ret (v := .tuple #[.pointer (some ⟨w1.heap.size + 2, 0, none⟩), .int .i64 0]) (by simp [results, Try.results93, go_sem]) rfl ⟨_, _, _, rfl, ⟨by omega, HNE.out, own_of_blk HGE.out (by omega) (bidsC_length _ _) (by unfold maxLen; omega)⟩, ?_⟩
          exact HBW1.out.trans ((HB2.out.mono (by omega)).trans (HB3.out.mono (by omega)))
    exact AllReadyF.nil
  exact AllReadyF.nil
end Go.Proofs.Ytcigobiolbojhaa.Vb

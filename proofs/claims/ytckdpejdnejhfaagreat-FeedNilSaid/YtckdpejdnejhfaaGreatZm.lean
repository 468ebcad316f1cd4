/- Joined by program: HrF Index Check Inst Inst2 Types HrG HrH HrJ HrM HrN HrR HrS HrT HrU. -/
import Derived.Test.YtckdpejdnejhfaaGreatZl
import Derived.Test.YtckdpejdnejhfaaGreatZk
import Derived.Test.YtckdpejdnejhfaaGreatZa
import Derived.Laws.Tables
import Derived.Laws.Rows
import Derived.Deep.RegionLaw
import Derived.Lib.SliceRun
/- House: enter. -/
set_option linter.all false
namespace Go.Proofs.YtckdpejdnejhfaaGreat.Ho
open Go.RowKit
open Go.Proofs.YtckdpejdnejhfaaGreat.Vb Go.Proofs.YtckdpejdnejhfaaGreat.Ac

theorem et_accs : ElemT Tryz.prog 77 136 1 8 := elemT_of Tryz.underlying77 (by omega) (z := .pointer none) (by kernel_rfl) rfl
def enterE (H : House) (c : Int) (s : ByteArray) : Int := if coinB c = false then 2 else addE H.names 4096 s
def enterH (H : House) (c : Int) (s : ByteArray) : House := { H with names := H.names ++ [s], accs := H.accs ++ [⟨c, 0, []⟩] }
theorem coinB_coin {c : Int} : coinB c = true ↔ coin c := by simp [coinB, coin]
theorem enter_end {W W3 W4 U : World} {T : Nat → Part} {h pn pc K n ba ma : Nat} {va vl vb vs v' : Value} {H : House} {a : Acc} {s : ByteArray} {bs ms : Nat → Nat} (H0 : HouseAt W T h pn pc va vl vb vs K H)
    (has : ∀ i a, H.accs[i]? = some a → AccAt W (bs i) (ms i) K a ∧ T (bs i) = .acc i ∧ T (ms i) = .acc i) (hn : n = H.accs.length)
    (hcN : Chg (fun b => T b = .names) W W3) (hnm : NamesAt W3 (fun b => (T b = .names ∧ b < W.heap.size) ∨ W.heap.size ≤ b) pn 4096 (H.names ++ [s])) (hb4 : Below W3.heap.size W3 W4) (hacc : AccAt W4 ba ma 0 a) (hba : W3.heap.size ≤ ba) (hma : W3.heap.size ≤ ma)
    (hrow : RowAt U (fun b => (T b = .accs ∧ b < W.heap.size) ∨ W4.heap.size ≤ b) 136 1 v' (n + 1) (ptrs bs n ++ [.pointer (some ⟨ba, 0, none⟩)])) (hcU : Chg (fun b => (T b = .accs ∨ T b = .hs) ∧ b < W.heap.size) W4 U)
    (hbU : Blk U h 83 #[.pointer (some ⟨pn, 0, none⟩), v', vl, .pointer (some ⟨pc, 0, none⟩), vb, vs]) : ∃ T', HouseIn U T' h K { H with names := H.names ++ [s], accs := H.accs ++ [a] } ∧ Moves W T U T' := by
  obtain ⟨T', hT'⟩ : ∃ T' : Nat → Part, T' = fun b => if b < W.heap.size then T b else if b < W3.heap.size then .names else if b < W4.heap.size then .acc n else if b < U.heap.size then .accs else .no := ⟨_, rfl⟩
  have hT : ∀ b, b < W.heap.size → T' b = T b := fun b hb => by rw [hT']; simp [hb]
  have hs3 := hcN.size
  have hs4 := hb4.size
  have hsU := hcU.size
  have hlb := hacc.ltb
  have hlm := hacc.ltm
  have hc3U : Chg (fun b => (T b = .accs ∨ T b = .hs) ∧ b < W.heap.size) W3 U := (Chg.of _ hb4).trans hcU
  have hcWU : Chg (fun b => T b = .names ∨ T b = .accs ∨ T b = .hs) W U := (hcN.mono fun b _ e => .inl e).step hc3U fun b _ e => .inr e.1
  refine ⟨T', ⟨pn, pc, v', vl, vb, vs, ?_⟩, hcWU.mono fun b _ e => ?_, hT⟩
  · refine ⟨(hT h H0.blk.lt).trans H0.top, hbU, ?_, ⟨fun i => if i = n then ba else bs i, fun i => if i = n then ma else ms i, ?_, fun i x hi => ?_⟩, H0.lots.step hcWU (fun b e => ?_) hT, H0.cal.step hcWU (fun b e => by rintro (k | k | k) <;> rw [e] at k <;> cases k) hT, H0.book.step hcWU (fun b e => ?_) hT, H0.sales.step hcWU (fun b e => by rintro (k | k | k) <;> rw [e] at k <;> cases k) hT, fun b hb => ?_⟩
    · refine NamesAt.mono (NamesAt.chg (R := fun b => ((T b = .names ∧ b < W.heap.size) ∨ W.heap.size ≤ b) ∧ b < W3.heap.size) (hnm.mono fun b hb hr => ⟨hr, hb⟩) hc3U fun b _ hr e => ?_) fun b _ hr => ?_
      · rcases hr.1 with k | k
        · rw [k.1] at e; rcases e.1 with e | e <;> cases e
        · have := e.2; omega
      · rcases hr.1 with k | k
        · exact (hT b k.2).trans k.1
        · rw [hT']; simp [show ¬ b < W.heap.size by omega, hr.2]
    · have h1 : (H.accs ++ [a]).length = n + 1 := by simp [hn]
      show RowAt U _ _ 1 v' (H.accs ++ [a]).length (ptrs _ (H.accs ++ [a]).length)
      rw [h1, ptrs_snoc]
      have h2 : ptrs (fun i => if i = n then ba else bs i) n = ptrs bs n := ptrs_congr fun i hi => by simp [show ¬ i = n by omega]
      rw [h2]
      simp only [if_true]
      refine ⟨hrow.own, fun b hb => ?_⟩
      have hlt := hrow.lt hb
      rcases hrow.blk b hb with k | k
      · exact (hT b k.2).trans k.1
      · rw [hT']; simp [show ¬ b < W.heap.size by omega, show ¬ b < W3.heap.size by omega, show ¬ b < W4.heap.size by omega, hlt]
    · by_cases e : i = n
      · subst e
        have hx : x = a := by
          have : (H.accs ++ [a])[i]? = some a := by simp [hn]
          rw [this] at hi; cases hi; rfl
        subst hx
        simp only [if_true]
        refine ⟨(hacc.chg hcU (fun e => by have := e.2; omega) (fun e => by have := e.2; omega)).mono (Nat.zero_le _), ?_, ?_⟩
        · rw [hT']; simp [show ¬ ba < W.heap.size by omega, show ¬ ba < W3.heap.size by omega, hlb]
        · rw [hT']; simp [show ¬ ma < W.heap.size by omega, show ¬ ma < W3.heap.size by omega, hlm]
      · simp only [if_neg e]
        have hi' : H.accs[i]? = some x := by
          have h1 := (List.getElem?_eq_some_iff.1 hi).1
          simp only [List.length_append, List.length_singleton] at h1
          rwa [List.getElem?_append_left (by omega)] at hi
        obtain ⟨k1, k2, k3⟩ := has i x hi'
        exact ⟨k1.chg hcWU (fun k => by rw [k2] at k; rcases k with k | k | k <;> cases k) (fun k => by rw [k3] at k; rcases k with k | k | k <;> cases k), (hT _ k1.ltb).trans k2, (hT _ k1.ltm).trans k3⟩
    · rcases e with e | ⟨i, e⟩ | e <;> rintro (k | k | k) <;> rw [e] at k <;> cases k
    · rcases e with e | e <;> rintro (k | k | k) <;> rw [e] at k <;> cases k
    · rw [hT']; simp [show ¬ b < W.heap.size by omega, show ¬ b < W3.heap.size by omega, show ¬ b < W4.heap.size by omega, show ¬ b < U.heap.size by omega]
  · rcases e with e | e | e <;> exact ⟨by rw [e]; simp, by rw [e]; simp⟩
theorem NamesAt.own {W : World} {R : Nat → Prop} {p : Nat} {most : Int} {ns : List ByteArray} (h : NamesAt W R p most ns) : NamesAt W (fun b => R b ∧ b < W.heap.size) p most ns := h.mono fun b hb hr => ⟨hr, hb⟩
set_option maxRecDepth 100000 in
set_option maxHeartbeats 4000000 in
theorem henter_ok {W : World} {T : Nat → Part} {h pn pc K : Nat} {va vl vb vs : Value} {H : House} (hH : HouseAt W T h pn pc va vl vb vs K H) (hlen : H.accs.length = H.names.length) (o : OrderR) (vo : Value) (he : enterE H o.coins o.name = 0) (hsm : H.names.length ≤ 4096) :
    Calls Tryz.prog 94 #[.pointer (some ⟨h, 0, none⟩), o.agg vo] W fun e W' => e = .returned (.tuple #[.int .i64 H.names.length, .int .i64 0]) ∧ ∃ T', HouseIn W' T' h K (enterH H o.coins o.name) ∧ Moves W T W' T' := by
  obtain ⟨W1, hW1⟩ : ∃ W1, W1 = W.alloc (.cells (o.cells vo).toArray 61) := ⟨_, rfl⟩
  have hb1 : Below W.heap.size W W1 := by rw [hW1]; exact (Below.refl _ _).alloc (Nat.le_refl _) _
  have hx : Blk W1 W.heap.size 61 (o.cells vo).toArray := by rw [hW1]; exact Blk.new _ _ _
  have hc : coinB o.coins = true := by
    cases h1 : coinB o.coins with
    | true => rfl
    | false => unfold enterE at he; rw [if_pos h1] at he; cases he
  have hadd : addE H.names 4096 o.name = 0 := by
    unfold enterE at he; rwa [if_neg (by rw [hc]; simp)] at he
  obtain ⟨bs, ms, hrow, has⟩ := hH.accs
  obtain ⟨A, c, hva⟩ := hrow.form
  have H0 := Lib.hid hH
  have HB1 := Lib.hid hb1
  have HX := Lib.hid hx
  have c0 := (hH.grow hb1).cells.1
  have hl := (hH.grow hb1).cells.2.2.2.2.2.2
  have HNM := Lib.hid (NamesAt.grow hH.names.own hb1)
  obtain ⟨n, hn⟩ : ∃ n, n = H.accs.length := ⟨_, rfl⟩
  have HN := Lib.hid hn
  have HROW := Lib.hid (show RowAt W (fun b => T b = .accs ∧ b < W.heap.size) 136 1 (.slice A n c) n (ptrs bs n) by rw [hn, ← hva]; exact hrow.mono fun b hb hr => ⟨hr, hb⟩)
  have HVA := Lib.hid (show va = .slice A n c by rw [hn]; exact hva)
  have HAS := Lib.hid has
  have HLE := Lib.hid hlen
  have HSM := Lib.hid hsm
  have HADD := Lib.hid hadd
  have HC := Lib.hid hc
  obtain ⟨okind, oname, ocoins, obidder, olot, ⟨kind, opens, closes, start, step, extend, last, floor, fall, count, rule⟩, ooff, otick⟩ := o
  simp only at HADD HC
  simp only [OrderR.agg, OrderR.cells, LotR.cells, List.cons_append, List.nil_append] at hW1 HX ⊢
  have x1 : W1.cell? ⟨W.heap.size, 1, none⟩ = some (.string oname) := HX.out.cell 1
  have xl := HX.out.lt
  clear hH hb1 hx hc hadd he hrow has hva hn hlen hsm
  go_enter Tryz.func94, Tryz.ntmps94
  go_wp2_with fail
  rw [← hW1]
  clear hW1
  refine (hcoins_any ocoins _).mono ?_
  rintro e W2 ⟨rfl, rfl⟩
  rw [HC.out]
  go_wp2_with fail
  refine wp_region_F (Below W2.heap.size W2) [7, 8, 9, 10, 11, 12] (by kernel_rfl) ((Below.refl _ _).drew) (fun hS => ?_)
  refine tpD [1, 2, 3, 4, 7, 8, 9, 10, 11, 12] 0 hS ?_
  refine tpD [2, 3, 4, 7, 8, 9, 10, 11, 12] 1 hS ?_
  refine tpD [3, 4, 7, 8, 9, 10, 11, 12] 2 hS ?_
  refine tpD [4, 7, 8, 9, 10, 11, 12] 3 hS ?_
  have qq := Lib.hid fun (w' : World) (hSw : (Below W2.heap.size W2) w') => And.intro ((hSw.cell (p := ⟨W.heap.size, 1, none⟩) xl).trans x1) <| (hSw.cell (p := ⟨h, 0, none⟩) hl).trans c0
  refine tlD [7, 8, 9, 10, 11, 12] 4 hS qq ?_
  refine tpD [6, 7, 8, 9, 10, 11, 12] 5 hS ?_
  refine tlD [7, 8, 9, 10, 11, 12] 6 hS qq ?_
  refine stf 7 fun K hK => ?_
  go_simp
  refine (nadd_ok (W := W2.drew) (HNM.out.grow (Below.refl _ _).drew) (s := oname) HADD.out (by have := HSM.out; omega)).mono ?_
  rintro e W3 ⟨rfl, hnm, hcN⟩
  have HNM3 := Lib.hid hnm
  have HX3 := Lib.hid (Blk.chg (HX.out.grow (Below.refl _ _).drew) hcN (fun e => by have := e.2; omega))
  have HCN := Lib.hid (show Chg (fun b => T b = .names ∧ b < W.heap.size) W W3 from ((Chg.of _ HB1.out).grow (Below.refl _ _).drew).trans hcN)
  clear hnm hcN
  refine hK.out _ _ ?_
  clear hK K
  try simp only [Act.put, pb, pz, ps]
  refine tpW 8 ?_
  refine tpW 9 ?_
  refine tpW 10 ?_
  refine tpW 11 ?_
  refine tpW 12 ?_
  refine wpAnyF_done (by kernel_rfl) ?_ _
  clear hS c0 x1 xl hl
  have hs3 := HCN.out.size
  have hbh := H0.out.blk.chg HCN.out (fun e => by rw [H0.out.top] at e; cases e.1)
  have HBH3 := Lib.hid hbh
  have x2 : W3.cell? ⟨W.heap.size, 2, none⟩ = some (.int .i64 ocoins) := HX3.out.cell 2
  clear hbh hs3
  go_wp2_with fail
  refine (new_any ocoins _).mono ?_
  rintro e W4 ⟨hb4, (⟨h1, rfl⟩ | ⟨h1, rfl, hA⟩)⟩
  · exact absurd (coinB_coin.1 HC.out) h1
  · have HB4 := Lib.hid hb4
    have HA4 := Lib.hid hA
    have HBH4 := Lib.hid (HBH3.out.grow hb4)
    have y1 : W4.cell? ⟨h, 1, none⟩ = some (.slice A n c) := (HBH4.out.cell 1).trans (by rw [HVA.out]; rfl)
    have HR4 := Lib.hid ((HROW.out.chg HCN.out (fun b _ h1 h2 => by rw [h1.1] at h2; cases h2.1)).grow hb4)
    have HS4 := Lib.hid (show W.heap.size ≤ W4.heap.size from Nat.le_trans HCN.out.size hb4.size)
    have HOH := Lib.hid (show ¬ (Value.slice A n c).ownBlock = some h from fun e => by have h3 := (HROW.out.blk h e).1; rw [H0.out.top] at h3; cases h3)
    clear hb4 h1 hA x2
    go_wp2_with (at_builtin; go_must (refine wpList_row _ (.tmp 39) (.tmp 41) rfl et_accs rfl (.slice A n c) n (ptrs bs n) rfl (HR4.out.grow ((Below.refl _ _).alloc (Nat.le_refl _) _)) (.slice (some ⟨W4.heap.size, 0, none⟩) 1 1) 1 [.pointer (some ⟨W3.heap.size + 1, 0, none⟩)] rfl (Sl.lit1 (Blk.new W4 136 #[.pointer (some ⟨W3.heap.size + 1, 0, none⟩)]) rfl) (by simp [Value.oneCell']) (by have := HLE.out; have := HN.out; have := HSM.out; omega) (by have := HLE.out; have := HN.out; have := HSM.out; unfold maxLen; omega) ?_); intro A3 c3 Z hrZ hcZ; have hbZ := (HBH4.out.alloc (.cells #[.pointer (some ⟨W3.heap.size + 1, 0, none⟩)] 136)).chg hcZ HOH.out; have f1 := hbZ.frozen 1; have z1 := hbZ.cell 1; have HBZ := Lib.hid hbZ; have HRZ := Lib.hid hrZ; have HCZ := Lib.hid hcZ; clear hbZ hrZ hcZ)
    go_ret2
    obtain ⟨U, hU⟩ : ∃ U, U = Z.setCell ⟨h, 1, none⟩ (.slice A3 (n + 1) c3) := ⟨_, rfl⟩
    rw [← hU]
    refine ⟨by rw [← HLE.out, ← HN.out]; rfl, ?_⟩
    have hcU : Chg (· = h) Z U := by rw [hU]; exact Chg.set Z ⟨h, 1, none⟩ _
    have hlW : h < W.heap.size := H0.out.blk.lt
    have hrow2 := HRZ.out.chgB hcU (fun b hb e => by
      rcases HRZ.out.blk b hb with k | k
      · have := k.1; rw [e, H0.out.top] at this; cases this
      · have h1 := HS4.out; rw [World.size_alloc] at k; omega)
    exact enter_end (n := n) H0.out HAS.out HN.out (HCN.out.mono fun b _ e => e.1) (HNM3.out.mono fun b _ k => k.elim (fun k => .inl k) (fun k => .inr (Nat.le_trans HB1.out.size k))) HB4.out HA4.out (by omega) (Nat.le_refl _)
      (hrow2.mono fun b _ k => k.elim .inl (fun k => .inr (by rw [World.size_alloc] at k; omega)))
      ((((Chg.refl _ W4).grow ((Below.refl _ _).alloc (Nat.le_refl _) _)).step HCZ.out fun b _ e => ⟨.inl (HROW.out.blk b e).1, (HROW.out.blk b e).2⟩).step hcU fun b _ e => ⟨.inr (e ▸ H0.out.top), by omega⟩)
      (by rw [hU, HVA.out] at *; exact HBZ.out.set_ 1 _)
end Go.Proofs.YtckdpejdnejhfaaGreat.Ho

/- slices.IndexFunc over offers. -/
namespace Go.Proofs.YtckdpejdnejhfaaGreat.Vb
open Go.RowKit

end Go.Proofs.YtckdpejdnejhfaaGreat.Vb

/- offers.Check. -/
namespace Go.Proofs.YtckdpejdnejhfaaGreat.Vb
open Go.RowKit

def checkE (n : Int) (l : List Off) : Int := if n < 1 ∨ 10 < n then 2 else if 8 < l.length then 3 else match badAt (2 ^ n.toNat - 1) l with | some _ => 180 | none => 0

end Go.Proofs.YtckdpejdnejhfaaGreat.Vb

/- offers.Instance. -/
namespace Go.Proofs.YtckdpejdnejhfaaGreat.Vb
open Go.RowKit

/-- The slice v reads as the buyers' lists bs. -/
def Buys (w : World) (R : Nat → Prop) (v : Value) (bs : List (List Off)) : Prop :=
  ∃ vs : List Value, Sl w R v bs.length 1 vs ∧ ∀ (k : Nat) (l : List Off), bs[k]? = some l → ∃ u, vs[k]? = some u ∧ Offs w R u l

def longB (l : List Off) : Bool := decide (8 < l.length)
def instLoop (n : Int) : List (List Off) → Int
  | [] => 0
  | l :: bs => if checkE n l ≠ 0 then checkE n l else instLoop n bs
def instE (n : Int) (bs : List (List Off)) : Int := if n < 1 ∨ 10 < n then 2 else if 32 < bs.length ∨ bs.any longB = true then 3 else instLoop n bs

end Go.Proofs.YtckdpejdnejhfaaGreat.Vb

/- offers.Instance, whole. -/
namespace Go.Proofs.YtckdpejdnejhfaaGreat.Vb
open Go.RowKit

end Go.Proofs.YtckdpejdnejhfaaGreat.Vb

/- The element types' rows; slices.Clone. -/
namespace Go.Proofs.YtckdpejdnejhfaaGreat.Vb
open Go.RowKit

theorem et_off : ElemT Tryz.prog 59 191 2 16 := elemT_of Tryz.underlying59 (by omega) (z := .agg #[.int .u32 0, .int .i64 0]) (by kernel_rfl) rfl
theorem Off.all_one (l : List Off) : ∀ u ∈ Off.all l, u.oneCell' = true := by
  intro u hu
  simp only [Off.all, List.mem_flatMap] at hu
  obtain ⟨o, _, ho⟩ := hu
  simp [Off.cells] at ho
  rcases ho with rfl | rfl <;> rfl

set_option maxHeartbeats 400000 in
theorem clone_off (xs : List Value) (n : Nat) (v : Value) (R : Nat → Prop) (w : World) (hl : Sl w R v n 2 xs) (h1 : ∀ u ∈ xs, u.oneCell' = true) (hb : n * 16 ≤ 140737488355328) :
    Calls Tryz.prog 92 #[v] w fun e w' => ∃ A' cap', e = .returned (.slice A' n cap') ∧ w'.ownsRow w.heap.size 191 2 (.slice A' n cap') n xs ∧ Below w.heap.size w w' := by
  obtain ⟨hlen, A, cap, rfl, hncap, hcap, hcells⟩ := id hl
  have HS := Lib.hid hl
  clear hl hcells
  have hq := fun (W : World) (a : Option Addr) => Lib.run_eql_slice_nil (P := Tryz.prog) W 59 191 a n cap 0 0 Tryz.underlying59
  cases A with
  | none =>
    have hn : n = 0 := by
      obtain ⟨_, A, c, h, _, _, hc⟩ := HS.out
      injection h with hA _ _
      subst hA
      rcases Nat.eq_zero_or_pos n with h0 | h0
      · exact h0
      · obtain ⟨b, off, h, _⟩ := hc h0
        cases h
    subst hn
    have hx : xs = [] := List.eq_nil_of_length_eq_zero (by simpa using hlen)
    subst hx
    go_enter Tryz.func92, Tryz.ntmps92
    go_wp2
    go_ret
    exact ⟨none, 0, rfl, World.ownsRow_nil _ _ _ _, Below.refl _ _⟩
  | some ad =>
    clear hlen
    go_enter Tryz.func92, Tryz.ntmps92
    go_wp2_with (at_builtin; refine wpList_app _ rfl (.tmp 5) (.tmp 6) et_off rfl w.heap.size (.slice (some ⟨w.heap.size, 0, none⟩) 0 0) 0 [] rfl (World.ownsRow_lit w #[] 0 (Nat.le_refl _) (Nat.zero_le _) rfl) R _ n xs rfl (HS.out.alloc _) h1 (by omega) (by unfold maxLen; omega) (by simp) ?_; intro A' cap' w1 hown hg hloc)
    go_ret
    refine ⟨A', cap', by simp, by simpa using hown, ((Below.refl _ _).alloc (Nat.le_refl _) _).grown hg (by simp) (by simp [Value.ownBlock])⟩
end Go.Proofs.YtckdpejdnejhfaaGreat.Vb

/- House: an order copied. -/
namespace Go.Proofs.YtckdpejdnejhfaaGreat.Ho
open Go.RowKit
open Go.Proofs.YtckdpejdnejhfaaGreat.Vb Go.Proofs.YtckdpejdnejhfaaGreat.Ac

theorem Chg.setRow (W : World) (g : Nat) (cs : Array Value) : Chg (· = g) W (W.setRow g cs) := ⟨rfl, rfl, rfl, by simp, fun k _ hn => setRow_other W g k cs hn⟩
theorem Blk.setRow {W : World} {g : Nat} {t : TypeId} {old : Array Value} (h : Blk W g t old) (cs : Array Value) : Blk (W.setRow g cs) g t cs := setRow_heap W g old cs t (0, 0) h
set_option maxRecDepth 100000 in
set_option maxHeartbeats 4000000 in
theorem hcopied_any {W : World} {R : Nat → Prop} (o : OrderR) {vo : Value} (hO : Offs W R vo o.offers) (hn : o.offers.length ≤ 1099511627776) : Calls Tryz.prog 100 #[o.agg vo] W fun e W' =>
    ∃ A c, e = .returned (o.agg (.slice A o.offers.length c)) ∧ Offs W' (fun b => W.heap.size ≤ b) (.slice A o.offers.length c) o.offers ∧ Below W.heap.size W W' := by
  have HO := Lib.hid hO
  have HNN := Lib.hid hn
  obtain ⟨okind, oname, ocoins, obidder, olot, ⟨kind, opens, closes, start, step, extend, last, floor, fall, count, rule⟩, ooff, otick⟩ := o
  simp only at HO HNN ⊢
  simp only [OrderR.agg, OrderR.cells, LotR.cells, List.cons_append, List.nil_append]
  obtain ⟨W2, hW2⟩ : ∃ W2, W2 = (W.alloc (.cells #[.int .i64 okind, .string oname, .int .i64 ocoins, .int .i64 obidder, .int .i64 olot, .int .i64 kind, .int .i64 opens, .int .i64 closes, .int .i64 start, .int .i64 step, .int .i64 extend, .int .i64 last, .int .i64 floor, .int .i64 fall, .int .i64 count, .int .i64 rule, vo, .int .i64 otick] 61)).alloc (.cells #[.int .i64 0, .string { data := #[] }, .int .i64 0, .int .i64 0, .int .i64 0, .int .i64 0, .int .i64 0, .int .i64 0, .int .i64 0, .int .i64 0, .int .i64 0, .int .i64 0, .int .i64 0, .int .i64 0, .int .i64 0, .int .i64 0, .slice none 0 0, .int .i64 0] 61) := ⟨_, rfl⟩
  have hb2 : Below W.heap.size W W2 := by rw [hW2]; exact ((Below.refl _ _).alloc (Nat.le_refl _) _).alloc (by simp) _
  have hx : Blk W2 W.heap.size 61 #[.int .i64 okind, .string oname, .int .i64 ocoins, .int .i64 obidder, .int .i64 olot, .int .i64 kind, .int .i64 opens, .int .i64 closes, .int .i64 start, .int .i64 step, .int .i64 extend, .int .i64 last, .int .i64 floor, .int .i64 fall, .int .i64 count, .int .i64 rule, vo, .int .i64 otick] := by rw [hW2]; exact (Blk.new W _ _).alloc _
  have hy : Blk W2 (W.heap.size + 1) 61 #[.int .i64 0, .string { data := #[] }, .int .i64 0, .int .i64 0, .int .i64 0, .int .i64 0, .int .i64 0, .int .i64 0, .int .i64 0, .int .i64 0, .int .i64 0, .int .i64 0, .int .i64 0, .int .i64 0, .int .i64 0, .int .i64 0, .slice none 0 0, .int .i64 0] := by rw [hW2]; exact Blk.new' _ _ (by simp)
  have x16 : W2.cell? ⟨W.heap.size, 16, none⟩ = some vo := hx.cell 16
  have HB2 := Lib.hid hb2
  have HX := Lib.hid hx
  have HY := Lib.hid hy
  have HO2 := Lib.hid (Offs.grow HO.out hb2)
  clear hO hn hb2 hx hy
  go_enter Tryz.func100, Tryz.ntmps100
  go_wp2_with fail
  rw [← hW2]
  clear hW2
  refine (clone_off (Off.all ooff) ooff.length vo R _ HO2.out.1 (Off.all_one ooff) (by have := HNN.out; omega)).mono ?_
  rintro e W3 ⟨A, c, rfl, hown, hb3⟩
  have HOWN := Lib.hid hown
  have HX3 := Lib.hid (HX.out.grow hb3)
  have HY3 := Lib.hid (HY.out.grow hb3)
  have HB3 := Lib.hid (HB2.out.trans (hb3.mono HB2.out.size))
  have x16 : W3.cell? ⟨W.heap.size, 16, none⟩ = some vo := HX3.out.cell 16
  have f16 : W3.frozen? ⟨W.heap.size, 16, none⟩ = false := HX3.out.frozen 16
  obtain ⟨W4, hW4⟩ : ∃ W4, W4 = W3.setCell ⟨W.heap.size, 16, none⟩ (.slice A ooff.length c) := ⟨_, rfl⟩
  have hx4 : Blk W4 W.heap.size 61 #[.int .i64 okind, .string oname, .int .i64 ocoins, .int .i64 obidder, .int .i64 olot, .int .i64 kind, .int .i64 opens, .int .i64 closes, .int .i64 start, .int .i64 step, .int .i64 extend, .int .i64 last, .int .i64 floor, .int .i64 fall, .int .i64 count, .int .i64 rule, (.slice A ooff.length c), .int .i64 otick] := by rw [hW4]; exact HX3.out.set_ 16 _
  have hc4 : Chg (· = W.heap.size) W3 W4 := by rw [hW4]; exact Chg.set W3 ⟨W.heap.size, 16, none⟩ _
  have hy4 := HY3.out.chg hc4 (by omega)
  have HC4 := Lib.hid hc4
  have HW4 := Lib.hid hW4
  rw [hW4] at hx4 hy4
  have HX4 := Lib.hid hx4
  have HY4 := Lib.hid hy4
  have HOW := Lib.hid hown
  have HS3 := Lib.hid hb3.size
  clear hown hb3 hx4 hc4 hy4 hW4
  go_wp2_with (first
    | (refine wpList_load_row rfl 61 (.tmp 1) rfl W.heap.size rfl 61 #[.int .i64 okind, .string oname, .int .i64 ocoins, .int .i64 obidder, .int .i64 olot, .int .i64 kind, .int .i64 opens, .int .i64 closes, .int .i64 start, .int .i64 step, .int .i64 extend, .int .i64 last, .int .i64 floor, .int .i64 fall, .int .i64 count, .int .i64 rule, (.slice A ooff.length c), .int .i64 otick] (0, 0) _ HX4.out Tryz.underlying61 rfl (by kernel_rfl) ?_)
    | (refine wpList_store_row rfl 61 (.tmp 2) (.tmp 7) rfl (W.heap.size + 1) #[.int .i64 okind, .string oname, .int .i64 ocoins, .int .i64 obidder, .int .i64 olot, .int .i64 kind, .int .i64 opens, .int .i64 closes, .int .i64 start, .int .i64 step, .int .i64 extend, .int .i64 last, .int .i64 floor, .int .i64 fall, .int .i64 count, .int .i64 rule, (.slice A ooff.length c), .int .i64 otick] rfl rfl 61 #[.int .i64 0, .string { data := #[] }, .int .i64 0, .int .i64 0, .int .i64 0, .int .i64 0, .int .i64 0, .int .i64 0, .int .i64 0, .int .i64 0, .int .i64 0, .int .i64 0, .int .i64 0, .int .i64 0, .int .i64 0, .int .i64 0, .slice none 0 0, .int .i64 0] HY4.out (by kernel_rfl) rfl (by simp [Value.oneCell']) ?_))
  rw [← HW4.out]
  have hfin : Blk (W4.setRow (W.heap.size + 1) #[.int .i64 okind, .string oname, .int .i64 ocoins, .int .i64 obidder, .int .i64 olot, .int .i64 kind, .int .i64 opens, .int .i64 closes, .int .i64 start, .int .i64 step, .int .i64 extend, .int .i64 last, .int .i64 floor, .int .i64 fall, .int .i64 count, .int .i64 rule, (.slice A ooff.length c), .int .i64 otick]) (W.heap.size + 1) 61 #[.int .i64 okind, .string oname, .int .i64 ocoins, .int .i64 obidder, .int .i64 olot, .int .i64 kind, .int .i64 opens, .int .i64 closes, .int .i64 start, .int .i64 step, .int .i64 extend, .int .i64 last, .int .i64 floor, .int .i64 fall, .int .i64 count, .int .i64 rule, (.slice A ooff.length c), .int .i64 otick] := Blk.setRow (by have := HY4.out; rwa [← HW4.out] at this) _
  have hcf := Chg.setRow W4 (W.heap.size + 1) #[.int .i64 okind, .string oname, .int .i64 ocoins, .int .i64 obidder, .int .i64 olot, .int .i64 kind, .int .i64 opens, .int .i64 closes, .int .i64 start, .int .i64 step, .int .i64 extend, .int .i64 last, .int .i64 floor, .int .i64 fall, .int .i64 count, .int .i64 rule, (.slice A ooff.length c), .int .i64 otick]
  have hsz := HB2.out.size
  have hs2 : W.heap.size + 1 < W2.heap.size := HY.out.lt
  refine bodyPost_ret (results_cell_row rfl _ _ (W.heap.size + 1) 61 #[.int .i64 okind, .string oname, .int .i64 ocoins, .int .i64 obidder, .int .i64 olot, .int .i64 kind, .int .i64 opens, .int .i64 closes, .int .i64 start, .int .i64 step, .int .i64 extend, .int .i64 last, .int .i64 floor, .int .i64 fall, .int .i64 count, .int .i64 rule, (.slice A ooff.length c), .int .i64 otick] (0, 0) _ rfl hfin Tryz.underlying61 rfl (by kernel_rfl)) rfl ⟨A, c, rfl, ?_, ?_⟩
  · refine ⟨Sl.mono (R := fun b => (Value.slice A ooff.length c).ownBlock = some b) (Sl.keep (Sl.of_own HOW.out) (Nat.le_trans HC4.out.size hcf.size) fun b hb hr => ?_) (fun b _ hr => Nat.le_trans hsz (HOW.out.lt b hr).1), HO.out.2⟩
    have hle := (HOW.out.lt b hr).1
    rw [hcf.block b (Nat.lt_of_lt_of_le hb HC4.out.size) (by omega)]
    exact HC4.out.block b hb (by omega)
  · exact ((HB3.out.trans (HC4.out.below (B := W.heap.size) (by have := HS3.out; omega) (fun k hk e => by omega))).trans (hcf.below (B := W.heap.size) (by have := HS3.out; have := HC4.out.size; omega) (fun k hk e => by omega)))
end Go.Proofs.YtckdpejdnejhfaaGreat.Ho

/- House: the book grows. -/
namespace Go.Proofs.YtckdpejdnejhfaaGreat.Ho
open Go.RowKit
open Go.Proofs.YtckdpejdnejhfaaGreat.Vb Go.Proofs.YtckdpejdnejhfaaGreat.Ac

theorem et_order : ElemT Tryz.prog 46 61 18 168 := elemT_of Tryz.underlying46 (by omega) (z := .agg #[.int .i64 0, .string { data := #[] }, .int .i64 0, .int .i64 0, .int .i64 0, .int .i64 0, .int .i64 0, .int .i64 0, .int .i64 0, .int .i64 0, .int .i64 0, .int .i64 0, .int .i64 0, .int .i64 0, .int .i64 0, .int .i64 0, .slice none 0 0, .int .i64 0]) (by kernel_rfl) rfl
/-- a struct that fills a block, loaded: as a region's rule on takes wants it -/
theorem exec_load_row {P : Program} {o : Oper} {a : Act} {w : World} (ty : TypeId) (x : Operand) (ho : o.op = .load ty x) (g : Nat) (hx : a.eval x = .pointer (some ⟨g, 0, none⟩)) (t : TypeId) (cs : Array Value) (fr : Nat × Nat) (d : TypeDesc) (hg : w.heap[g]? = some (.cells cs t fr))
    (hu : P.underlying ty = some d) (hd : (match d with | .struct _ | .array _ _ => true | _ => false) = true) (hi : (P.info? ty).map (·.size) = some cs.size) : (execOp a.eval o).run P w = .ok (.value (.agg cs)) w := by
  unfold execOp
  simp only [ho, hx, Instr.loadAt, Instr.sureAddr, Sem.run_bind, Sem.run_pure, Result.andThen_ok, run_loadVar_row w g t ty cs fr d hg hu hd hi]
theorem mapIdx_snoc {α β : Type} (l : List α) (x : α) (f : Nat → α → β) : (l ++ [x]).mapIdx f = l.mapIdx f ++ [f l.length x] := by simp
theorem mapIdx_congr' {α β : Type} {l : List α} {f g : Nat → α → β} (h : ∀ i x, i < l.length → f i x = g i x) : l.mapIdx f = l.mapIdx g := by
  apply List.ext_getElem?
  intro i
  simp only [List.getElem?_mapIdx]
  by_cases hi : i < l.length
  · rw [List.getElem?_eq_getElem hi]; simp [h i _ hi]
  · rw [List.getElem?_eq_none (by omega)]; rfl
theorem orderCells_snoc (os : List OrderR) (o : OrderR) (vo : Nat → Value) (v : Value) : orderCells (os ++ [o]) (fun k => if k = os.length then v else vo k) = orderCells os vo ++ o.cells v := by
  unfold orderCells
  rw [mapIdx_snoc, List.flatten_append]
  simp only [if_true, List.flatten_cons, List.flatten_nil, List.append_nil]
  congr 2
  exact mapIdx_congr' fun i x hi => by simp [show ¬ i = os.length by omega]
theorem book_end {W W5 U : World} {T : Nat → Part} {h pn pc K n : Nat} {va vl vb vs v' vc : Value} {H : House} {o : OrderR} {vo : Nat → Value} (H0 : HouseAt W T h pn pc va vl vb vs K H) (hvo : OffsAt W T vo (H.book.map (·.offers))) (hn : n = H.book.length)
    (hb5 : Below W.heap.size W W5) (hoff : Offs W5 (fun b => W.heap.size ≤ b) vc o.offers)
    (hrow : RowAt U (fun b => (T b = .book ∧ b < W.heap.size) ∨ W5.heap.size ≤ b) 61 18 v' (n + 1) (orderCells H.book vo ++ o.cells vc)) (hcU : Chg (fun b => (T b = .book ∨ T b = .hs) ∧ b < W.heap.size) W5 U)
    (hbU : Blk U h 83 #[.pointer (some ⟨pn, 0, none⟩), va, vl, .pointer (some ⟨pc, 0, none⟩), v', vs]) : ∃ T', HouseIn U T' h K { H with book := H.book ++ [o] } ∧ Moves W T U T' := by
  obtain ⟨T', hT'⟩ : ∃ T' : Nat → Part, T' = fun b => if b < W.heap.size then T b else if b < W5.heap.size then .old else if b < U.heap.size then .book else .no := ⟨_, rfl⟩
  have hT : ∀ b, b < W.heap.size → T' b = T b := fun b hb => by rw [hT']; simp [hb]
  have hs5 := hb5.size
  have hsU := hcU.size
  have hcW : Chg (fun b => T b = .book ∨ T b = .hs) W U := (Chg.of _ hb5).step hcU fun b _ e => e.1
  refine ⟨T', ⟨pn, pc, va, vl, v', vs, ?_⟩, hcW.mono fun b _ e => ?_, hT⟩
  · refine ⟨(hT h H0.blk.lt).trans H0.top, hbU, H0.names.step hcW (fun b e => by rintro (k | k) <;> rw [e] at k <;> cases k) hT, H0.accs.step hcW (fun b e => ?_) hT, H0.lots.step hcW (fun b e => ?_) hT, H0.cal.step hcW (fun b e => by rintro (k | k) <;> rw [e] at k <;> cases k) hT, ⟨fun k => if k = n then vc else vo k, ?_, fun k l hk => ?_⟩, H0.sales.step hcW (fun b e => by rintro (k | k) <;> rw [e] at k <;> cases k) hT, fun b hb => ?_⟩
    · rcases e with e | ⟨i, e⟩ <;> rintro (k | k) <;> rw [e] at k <;> cases k
    · rcases e with e | ⟨i, e⟩ | e <;> rintro (k | k) <;> rw [e] at k <;> cases k
    · show RowAt U _ _ 18 v' (H.book ++ [o]).length (orderCells (H.book ++ [o]) _)
      rw [hn, orderCells_snoc, List.length_append, List.length_singleton]
      rw [hn] at hrow
      refine ⟨hrow.own, fun b hb => ?_⟩
      have hlt := hrow.lt hb
      rcases hrow.blk b hb with k | k
      · exact (hT b k.2).trans k.1
      · rw [hT']; simp [show ¬ b < W.heap.size by omega, show ¬ b < W5.heap.size by omega, hlt]
    · by_cases e : k = n
      · subst e
        have hl : l = o.offers := by
          have : ((H.book ++ [o]).map (·.offers))[k]? = some o.offers := by simp [hn]
          have hk2 : ((H.book ++ [o]).map (·.offers))[k]? = some l := hk
          rw [this] at hk2; cases hk2; rfl
        subst hl
        simp only [if_true]
        refine Offs.mono (Offs.chg (Offs.mono (R' := fun b => W.heap.size ≤ b ∧ b < W5.heap.size) hoff fun b hb hr => ⟨hr, hb⟩) hcU fun b _ hr e => by have := e.2; omega) fun b _ hr => ?_
        rw [hT']; simp [show ¬ b < W.heap.size by omega, hr.2]
      · simp only [if_neg e]
        have hk' : (H.book.map (·.offers))[k]? = some l := by
          have hk2 : ((H.book ++ [o]).map (·.offers))[k]? = some l := hk
          have h1 := (List.getElem?_eq_some_iff.1 hk2).1
          simp only [List.length_map, List.length_append, List.length_singleton] at h1
          rw [List.map_append, List.getElem?_append_left (by simp; omega)] at hk2
          exact hk2
        have h1 := OffsAt.step (T' := T') hvo hcW (fun b e => by rintro (k | k) <;> rw [e] at k <;> cases k) hT
        exact h1 k l hk'
    · rw [hT']; simp [show ¬ b < W.heap.size by omega, show ¬ b < W5.heap.size by omega, show ¬ b < U.heap.size by omega]
  · rcases e with e | e <;> exact ⟨by rw [e]; simp, by rw [e]; simp⟩
end Go.Proofs.YtckdpejdnejhfaaGreat.Ho

/- House: of, lot; one account moves on; bring. -/
namespace Go.Proofs.YtckdpejdnejhfaaGreat.Ho
open Go.RowKit
open Go.Proofs.YtckdpejdnejhfaaGreat.Vb Go.Proofs.YtckdpejdnejhfaaGreat.Ac

theorem ptrs_at {f : Nat → Nat} {n i : Nat} (h : i < n) : (ptrs f n)[i]? = some (.pointer (some ⟨f i, 0, none⟩)) := by simp [ptrs, h]
section
variable {W W' : World} {T : Nat → Part} {h pn pc K K' : Nat} {va vl vb vs : Value} {H : House}
theorem hof_err {A : Option Addr} {n c : Nat} (c1 : W.cell? ⟨h, 1, none⟩ = some (.slice A n c)) {x : Int} (hx : x < 0 ∨ (n : Int) ≤ x) : Calls Tryz.prog 76 #[.pointer (some ⟨h, 0, none⟩), .int .i64 x] W fun e W' => e = .returned (.tuple #[.pointer none, .int .i64 4]) ∧ W' = W := by
  by_cases h0 : x < 0
  · go_enter Tryz.func76, Tryz.ntmps76
    go_wp2_with fail
    go_ret2
    exact ⟨rfl, rfl⟩
  · have h1 : (n : Int) ≤ x := hx.resolve_left h0
    clear hx
    go_enter Tryz.func76, Tryz.ntmps76
    go_wp2_with fail
    go_ret2
    exact ⟨rfl, rfl⟩
theorem hof_ok {R : Nat → Prop} {n i : Nat} {f : Nat → Nat} (c1 : W.cell? ⟨h, 1, none⟩ = some va) (hrow : RowAt W R 136 1 va n (ptrs f n)) (hi : i < n) : Calls Tryz.prog 76 #[.pointer (some ⟨h, 0, none⟩), .int .i64 i] W fun e W' => e = .returned (.tuple #[.pointer (some ⟨f i, 0, none⟩), .int .i64 0]) ∧ W' = W := by
  obtain ⟨q, cap, rfl, _, _, _⟩ := hrow.ex (by omega)
  have q0 : W.cell? ⟨q, i, none⟩ = some (.pointer (some ⟨f i, 0, none⟩)) := (hrow.own.cellAt i (by omega)).trans (ptrs_at hi)
  have e1 : (0 : Int) ≤ (i : Int) := by omega
  have e2 : (i : Int) < (n : Int) := by omega
  clear hrow
  go_enter Tryz.func76, Tryz.ntmps76
  go_wp2_with fail
  go_ret2
  exact ⟨rfl, rfl⟩
/-- one account moves on -/
theorem accs_upd {acs : List Acc} {ba ma : Nat → Nat} (hrow : RowAt W (fun b => T b = .accs) 136 1 va acs.length (ptrs ba acs.length)) (has : ∀ i a, acs[i]? = some a → AccAt W (ba i) (ma i) K a ∧ T (ba i) = .acc i ∧ T (ma i) = .acc i)
    {i : Nat} {a : Acc} (hi : i < acs.length) (hK : K ≤ K') (ha : AccAt W' (ba i) (ma i) K' a) (hc : Chg (fun b => T b = .acc i) W W') : AccsAt W' T va K' (acs.set i a) := by
  refine ⟨ba, ma, ?_, fun j x hj => ?_⟩
  · rw [List.length_set]
    exact hrow.chg hc fun b _ e1 e2 => by rw [e1] at e2; cases e2
  · rw [List.getElem?_set] at hj
    by_cases e : i = j
    · subst e
      rw [if_pos rfl, if_pos hi] at hj
      cases hj
      obtain ⟨a0, ha0⟩ : ∃ a0, acs[i]? = some a0 := ⟨_, List.getElem?_eq_getElem hi⟩
      exact ⟨ha, (has i a0 ha0).2⟩
    · rw [if_neg e] at hj
      obtain ⟨h1, h2, h3⟩ := has j x hj
      exact ⟨(h1.chg hc (fun k => by rw [h2] at k; cases k; exact e rfl) (fun k => by rw [h3] at k; cases k; exact e rfl)).mono hK, h2, h3⟩
theorem house_accs (hH : HouseAt W T h pn pc va vl vb vs K H) {acs : List Acc} (hA : AccsAt W' T va K' acs) (hc : Chg (fun b => ∃ i, T b = .acc i) W W') : HouseAt W' T h pn pc va vl vb vs K' { H with accs := acs } := by
  refine ⟨hH.top, hH.blk.chg hc (fun ⟨i, k⟩ => by rw [hH.top] at k; cases k), hH.names.step hc (fun b e => by rintro ⟨i, k⟩; rw [e] at k; cases k) (fun _ _ => rfl), hA, hH.lots.step hc (fun b e => ?_) (fun _ _ => rfl),
    hH.cal.step hc (fun b e => by rintro ⟨i, k⟩; rw [e] at k; cases k) (fun _ _ => rfl), hH.book.step hc (fun b e => ?_) (fun _ _ => rfl), hH.sales.step hc (fun b e => by rintro ⟨i, k⟩; rw [e] at k; cases k) (fun _ _ => rfl), fun b hb => hH.out b (Nat.le_trans hc.size hb)⟩
  · rcases e with e | ⟨i, e⟩ | e <;> rintro ⟨i, k⟩ <;> rw [e] at k <;> cases k
  · rcases e with e | e <;> rintro ⟨i, k⟩ <;> rw [e] at k <;> cases k
end
end Go.Proofs.YtckdpejdnejhfaaGreat.Ho

/- House: close: what was held is free, what is sold is paid. -/
namespace Go.Proofs.YtckdpejdnejhfaaGreat.Ho
open Go.RowKit
open Go.Proofs.YtckdpejdnejhfaaGreat.Vb Go.Proofs.YtckdpejdnejhfaaGreat.Ac

/-- a bidder's account without what is held for a lot -/
def relAcc (n : Nat) (acs : List Acc) (s : Stand) : List Acc := acs.modify s.bidder.toNat fun a => a.set n 0
def relAll (n : Nat) (acs : List Acc) (ss : List Stand) : List Acc := ss.foldl (relAcc n) acs
def takeA (a : Acc) (v : Int) : Acc := if a.takeE v = 0 then a.take v else a
def payAcc (acs : List Acc) (s : SaleR) : List Acc := acs.modify s.bidder.toNat fun a => takeA a s.coins
def payAll (acs : List Acc) (ss : List SaleR) : List Acc := ss.foldl payAcc acs
def stampS (H : House) (n : Nat) (s : SaleR) : SaleR := { s with number := H.book.length, lot := n, tick := H.now }
def closeH (H : House) (n : Nat) (l : LotS) (sales : List SaleR) : House :=
  { H with accs := payAll (relAll n H.accs l.stands) sales, sales := H.sales ++ sales.map (stampS H n), lots := H.lots.set n { l with closed := true, stands := [] } }
theorem relAcc_len (n : Nat) (acs : List Acc) (s : Stand) : (relAcc n acs s).length = acs.length := by simp [relAcc]
theorem relAll_len (n : Nat) (ss : List Stand) : ∀ acs : List Acc, (relAll n acs ss).length = acs.length := by
  induction ss with
  | nil => intro acs; rfl
  | cons s ss ih => intro acs; exact (ih _).trans (relAcc_len n acs s)
theorem payAll_len (ss : List SaleR) : ∀ acs : List Acc, (payAll acs ss).length = acs.length := by
  induction ss with
  | nil => intro acs; rfl
  | cons s ss ih => intro acs; exact (ih _).trans (by simp [payAcc])
theorem relAll_snoc (n : Nat) (acs : List Acc) (ss : List Stand) (s : Stand) : relAll n acs (ss ++ [s]) = relAcc n (relAll n acs ss) s := by simp [relAll]
theorem payAll_snoc (acs : List Acc) (ss : List SaleR) (s : SaleR) : payAll acs (ss ++ [s]) = payAcc (payAll acs ss) s := by simp [payAll]
theorem modify_set {α : Type} {l : List α} {i : Nat} {a : α} (f : α → α) (h : l[i]? = some a) : l.modify i f = l.set i (f a) := by
  apply List.ext_getElem?
  intro j
  have hl := (List.getElem?_eq_some_iff.1 h).1
  rw [List.getElem?_modify, List.getElem?_set]
  by_cases e : i = j
  · subst e
    rw [List.getElem?_eq_getElem hl] at h
    injection h with h
    simp [hl, h]
  · simp [e]
theorem take_succ' {α : Type} {l : List α} {k : Nat} {x : α} (h : l[k]? = some x) : l.take (k + 1) = l.take k ++ [x] := by rw [List.take_add_one, h]; rfl
/-- all accounts are in order -/
def AccsOk (acs : List Acc) : Prop := ∀ a ∈ acs, a.Ok ∧ a.Fine
theorem AccsOk.set {acs : List Acc} (h : AccsOk acs) {i : Nat} {a : Acc} (ha : a.Ok ∧ a.Fine) : AccsOk (acs.set i a) := fun x hx => by
  rcases List.mem_or_eq_of_mem_set hx with h1 | h1
  · exact h x h1
  · rw [h1]; exact ha
theorem relAll_ok {n : Nat} (hn : (n : Int) ≤ 9223372036854775807) : ∀ (ss : List Stand) (acs : List Acc), AccsOk acs → AccsOk (relAll n acs ss)
  | [], _, h => h
  | s :: ss, acs, h => by
    refine relAll_ok hn ss _ ?_
    unfold relAcc
    cases hs : acs[s.bidder.toNat]? with
    | none => rw [List.modify_eq_self (by rw [List.getElem?_eq_none_iff] at hs; exact hs)]; exact h
    | some a =>
      rw [modify_set _ hs]
      have ha := h a (List.mem_of_getElem? hs)
      exact h.set (release_keeps ha.1 ha.2 (by omega) hn)
theorem takeA_ok {a : Acc} (h : a.Ok ∧ a.Fine) (v : Int) : (takeA a v).Ok ∧ (takeA a v).Fine := by
  unfold takeA
  split
  · exact take_keeps h.1 h.2 (by assumption)
  · exact h
theorem payAll_ok : ∀ (ss : List SaleR) (acs : List Acc), AccsOk acs → AccsOk (payAll acs ss)
  | [], _, h => h
  | s :: ss, acs, h => by
    refine payAll_ok ss _ ?_
    unfold payAcc
    cases hs : acs[s.bidder.toNat]? with
    | none => rw [List.modify_eq_self (by rw [List.getElem?_eq_none_iff] at hs; exact hs)]; exact h
    | some a =>
      rw [modify_set _ hs]
      exact h.set (takeA_ok (h a (List.mem_of_getElem? hs)) _)
end Go.Proofs.YtckdpejdnejhfaaGreat.Ho

/- House: rows of structs read; a sale more, a lot that turned. -/
namespace Go.Proofs.YtckdpejdnejhfaaGreat.Ho
open Go.RowKit
open Go.Proofs.YtckdpejdnejhfaaGreat.Vb Go.Proofs.YtckdpejdnejhfaaGreat.Ac

theorem flat_get {n : Nat} : ∀ {xs : List (List Value)} {k i : Nat} {x : List Value}, (∀ y ∈ xs, y.length = n) → xs[k]? = some x → i < n → xs.flatten[k * n + i]? = x[i]?
  | [], _, _, _, _, h, _ => by simp at h
  | y :: ys, 0, i, x, hl, h, hi => by
    obtain rfl : y = x := by simpa using h
    rw [List.flatten_cons, List.getElem?_append_left (by have := hl y (.head _); omega)]
    congr 1; omega
  | y :: ys, k + 1, i, x, hl, h, hi => by
    have hy := hl y (.head _)
    rw [List.flatten_cons, List.getElem?_append_right (by rw [hy, Nat.succ_mul]; omega), show (k + 1) * n + i - y.length = k * n + i by rw [hy, Nat.succ_mul]; omega]
    exact flat_get (fun z hz => hl z (.tail _ hz)) (by simpa using h) hi
theorem mapIdx_len {α : Type} {l : List α} {f : Nat → α → List Value} {n : Nat} (h : ∀ i x, (f i x).length = n) : ∀ y ∈ l.mapIdx f, y.length = n := fun y hy => by
  obtain ⟨i, hi, rfl⟩ := List.mem_mapIdx.1 hy
  exact h _ _
theorem standCells_at {ss : List Stand} {vo : Nat → Value} {k i : Nat} {s : Stand} (hk : ss[k]? = some s) (hi : i < 3) : (standCells ss vo)[k * 3 + i]? = (s.cells (vo k))[i]? :=
  flat_get (mapIdx_len fun _ _ => rfl) (by rw [List.getElem?_mapIdx, hk]; rfl) hi
theorem saleCells_at {ss : List SaleR} {k i : Nat} {s : SaleR} (hk : ss[k]? = some s) (hi : i < 7) : (ss.flatMap SaleR.cells)[k * 7 + i]? = s.cells[i]? := by
  rw [List.flatMap_def]
  exact flat_get (fun y hy => by obtain ⟨x, _, rfl⟩ := List.mem_map.1 hy; rfl) (by rw [List.getElem?_map, hk]; rfl) hi
section
variable {W W' U : World} {T T' : Nat → Part} {h pn pc K : Nat} {va vl vb vs v v' : Value} {H : House}
theorem StandsAt.at_ {R : Nat → Prop} {ss : List Stand} (hs : StandsAt W T R v ss) {k : Nat} {s : Stand} (hk : ss[k]? = some s) :
    ∃ q cap uA uc, v = .slice (some ⟨q, 0, none⟩) ss.length cap ∧ R q ∧ q < W.heap.size ∧ W.cell? ⟨q, k * 3, none⟩ = some (.int .i64 s.bidder) ∧ W.cell? ⟨q, k * 3 + 1, none⟩ = some (.slice uA s.offers.length uc) ∧ W.cell? ⟨q, k * 3 + 2, none⟩ = some (.int .i64 s.held) ∧ Offs W (fun b => T b = .old) (.slice uA s.offers.length uc) s.offers := by
  obtain ⟨vo, h1, h2⟩ := hs
  have hl := (List.getElem?_eq_some_iff.1 hk).1
  obtain ⟨q, cap, rfl, hR, hq, _⟩ := h1.ex (by omega)
  have ho := h2 k s.offers (by rw [List.getElem?_map, hk]; rfl)
  obtain ⟨⟨_, uA, uc, hu, _⟩, _⟩ := id ho
  rw [hu] at ho
  refine ⟨q, cap, uA, uc, rfl, hR, hq, ?_, ?_, ?_, ho⟩
  · exact (h1.own.cellAt (k * 3) (by omega)).trans (standCells_at (i := 0) hk (by omega))
  · refine (h1.own.cellAt (k * 3 + 1) (by omega)).trans ((standCells_at (i := 1) hk (by omega)).trans ?_)
    rw [hu]; rfl
  · exact (h1.own.cellAt (k * 3 + 2) (by omega)).trans (standCells_at (i := 2) hk (by omega))
/-- one sale more -/
theorem sales_end (H0 : HouseAt W T h pn pc va vl vb vs K H) {s : SaleR} (hrow : RowAt U (fun b => T b = .sales ∨ W.heap.size ≤ b) 151 7 v' (H.sales.length + 1) (H.sales.flatMap SaleR.cells ++ s.cells)) (hcU : Chg (fun b => T b = .sales ∨ T b = .hs) W U)
    (hbU : Blk U h 83 #[.pointer (some ⟨pn, 0, none⟩), va, vl, .pointer (some ⟨pc, 0, none⟩), vb, v']) : ∃ T', HouseAt U T' h pn pc va vl vb v' K { H with sales := H.sales ++ [s] } ∧ Moves W T U T' := by
  obtain ⟨T', hT'⟩ : ∃ T' : Nat → Part, T' = fun b => if b < W.heap.size then T b else if b < U.heap.size then .sales else .no := ⟨_, rfl⟩
  have hT : ∀ b, b < W.heap.size → T' b = T b := fun b hb => by rw [hT']; simp [hb]
  have hsU := hcU.size
  refine ⟨T', ?_, hcU.mono fun b _ e => ?_, hT⟩
  · refine ⟨(hT h H0.blk.lt).trans H0.top, hbU, H0.names.step hcU (fun b e => by rintro (k | k) <;> rw [e] at k <;> cases k) hT, H0.accs.step hcU (fun b e => ?_) hT, H0.lots.step hcU (fun b e => ?_) hT, H0.cal.step hcU (fun b e => by rintro (k | k) <;> rw [e] at k <;> cases k) hT, H0.book.step hcU (fun b e => ?_) hT, ?_, fun b hb => ?_⟩
    · rcases e with e | ⟨i, e⟩ <;> rintro (k | k) <;> rw [e] at k <;> cases k
    · rcases e with e | ⟨i, e⟩ | e <;> rintro (k | k) <;> rw [e] at k <;> cases k
    · rcases e with e | e <;> rintro (k | k) <;> rw [e] at k <;> cases k
    · show RowAt U _ _ 7 v' (H.sales ++ [s]).length ((H.sales ++ [s]).flatMap SaleR.cells)
      rw [List.length_append, List.length_singleton, List.flatMap_append, List.flatMap_singleton]
      refine ⟨hrow.own, fun b hb => ?_⟩
      have hlt := hrow.lt hb
      by_cases hbW : b < W.heap.size
      · rw [hT b hbW]
        exact (hrow.blk b hb).resolve_right (by omega)
      · rw [hT']; simp [hbW, hlt]
    · rw [hT']; simp [show ¬ b < W.heap.size by omega, show ¬ b < U.heap.size by omega]
  · rcases e with e | e <;> exact ⟨by rw [e]; simp, by rw [e]; simp⟩
/-- one lot turned -/
theorem house_lot (H0 : HouseAt W T h pn pc va vl vb vs K H) {bl : Nat → Nat} (hrow : RowAt W (fun b => T b = .lots) 138 1 vl H.lots.length (ptrs bl H.lots.length)) (hls : ∀ n l, H.lots[n]? = some l → LotAt W T n (bl n) l)
    {j : Nat} (hj : j < H.lots.length) {l : LotS} (hl : LotAt U T' j (bl j) l) (hc : Chg (fun b => T b = .lot j) W U) (hT : ∀ b, b < W.heap.size → T' b = T b) (hout : ∀ b, U.heap.size ≤ b → T' b = .no) :
    HouseAt U T' h pn pc va vl vb vs K { H with lots := H.lots.set j l } := by
  have hn : ∀ b P, T b = P → P ≠ .lot j → ¬ T b = .lot j := fun b P e1 e2 e3 => e2 (e1.symm.trans e3)
  refine ⟨(hT h H0.blk.lt).trans H0.top, H0.blk.chg hc (hn h _ H0.top (by simp)), H0.names.step hc (fun b e => hn b _ e (by simp)) hT, H0.accs.step hc (fun b e => ?_) hT, ⟨bl, ?_, fun n x hn' => ?_⟩, H0.cal.step hc (fun b e => hn b _ e (by simp)) hT, H0.book.step hc (fun b e => ?_) hT, H0.sales.step hc (fun b e => hn b _ e (by simp)) hT, hout⟩
  · rcases e with e | ⟨i, e⟩ <;> exact hn b _ e (by simp)
  · show RowAt U _ _ 1 vl (H.lots.set j l).length (ptrs bl (H.lots.set j l).length)
    rw [List.length_set]
    exact RowAt.step hrow hc (fun b e => hn b _ e (by simp)) hT
  · rw [List.getElem?_set] at hn'
    by_cases e : j = n
    · subst e
      rw [if_pos rfl, if_pos hj] at hn'
      cases hn'
      exact hl
    · rw [if_neg e] at hn'
      refine (hls n x hn').step hc (fun b e1 => ?_) hT
      rcases e1 with e1 | e1
      · exact hn b _ e1 (by simpa using fun k => e k.symm)
      · exact hn b _ e1 (by simp)
  · rcases e with e | e <;> exact hn b _ e (by simp)
end
end Go.Proofs.YtckdpejdnejhfaaGreat.Ho

/- House: slices.Delete of one bid. -/
namespace Go.Proofs.YtckdpejdnejhfaaGreat.Ho
open Go.RowKit Go.Lib
open Go.Proofs.YtckdpejdnejhfaaGreat.Vb Go.Proofs.YtckdpejdnejhfaaGreat.Ac

theorem chg_setCells (q : Nat) : ∀ (vs : List Value) (W : World) (o : Nat), Chg (· = q) W (W.setCells q o vs)
  | [], W, _ => Chg.refl _ W
  | v :: r, W, o => (Chg.set W ⟨q, o, none⟩ v).trans (chg_setCells q r _ (o + 1))
/-- clear of one struct -/
theorem run_clear_one {P : Program} (w : World) (t e ty : TypeId) (z : Value) (ht : P.underlying t = some (.slice e)) (hv : ∀ w, (zeroValue e).run P w = .ok z w) (h1 : ∀ u ∈ z.cells.toList, u.oneCell' = true) (b o c : Nat)
    (hc : ∀ j, j < z.cells.size → (w.cell? ⟨b, o + j, none⟩).isSome = true) (hf : ∀ j, j < z.cells.size → w.frozen? ⟨b, o + j, none⟩ = false) :
    (Builtin.clear_ #[t] ty #[.slice (some ⟨b, o, none⟩) 1 c]).run P w = .ok (.tuple #[]) (w.setCells b o z.cells.toList) := by
  have hzc : (Builtin.zeroCells z.cells 1).toList = z.cells.toList := by
    simp [Builtin.zeroCells]
    apply List.ext_getElem
    · simp
    · intro i h1 h2
      have hm : i % z.cells.size = i := Nat.mod_eq_of_lt (by simpa using h1)
      have hl : i < z.cells.size := by simpa using h1
      simp [hm, hl]
  have hst := run_storeCells_cells (P := P) b o z.cells.toList 0 w (by simpa using hc) (by simpa using hf) h1
  simp only [Nat.add_zero] at hst
  simp [Builtin.clear_, run_underlying ht, hv, hzc, hst]
end Go.Proofs.YtckdpejdnejhfaaGreat.Ho

/- House: place. -/
namespace Go.Proofs.YtckdpejdnejhfaaGreat.Ho
open Go.RowKit
open Go.Proofs.YtckdpejdnejhfaaGreat.Vb Go.Proofs.YtckdpejdnejhfaaGreat.Ac

def placeN (b : Int) : List Stand → Option Nat
  | [] => none
  | s :: l => if s.bidder = b then some 0 else (placeN b l).map (· + 1)
end Go.Proofs.YtckdpejdnejhfaaGreat.Ho

/- House: single. -/
namespace Go.Proofs.YtckdpejdnejhfaaGreat.Ho
open Go.RowKit
open Go.Proofs.YtckdpejdnejhfaaGreat.Vb Go.Proofs.YtckdpejdnejhfaaGreat.Ac

/-- the coins of one offer without goods -/
def singleO : List Off → Option Int
  | [o] => if o.g = 0 ∧ coinB o.c = true then some o.c else none
  | _ => none
end Go.Proofs.YtckdpejdnejhfaaGreat.Ho

/- House: a bid that stands, in memory. -/
namespace Go.Proofs.YtckdpejdnejhfaaGreat.Ho
open Go.RowKit
open Go.Proofs.YtckdpejdnejhfaaGreat.Vb Go.Proofs.YtckdpejdnejhfaaGreat.Ac

/-- bids without a bidder's -/
def restS (b : Int) (ss : List Stand) : List Stand := match placeN b ss with | some k => ss.eraseIdx k | none => ss
def standL (l : LotS) (s : Stand) : LotS := { l with stands := restS s.bidder l.stands ++ [s] }
def standH (H : House) (i j : Nat) (a : Acc) (l : LotS) (s : Stand) : House := { H with accs := H.accs.set i (a.set j s.held), lots := H.lots.set j (standL l s) }
end Go.Proofs.YtckdpejdnejhfaaGreat.Ho

/- slices.IndexFunc over offers. -/
import Derived.Test.YtcigobiolbojhaaGoods
namespace Go.Proofs.Ytcigobiolbojhaa.Vb
open Go.RowKit

theorem badAt_none (all : Nat) : ∀ l : List Off, (∀ o ∈ l, badB all o = false) → badAt all l = none
  | [], _ => rfl
  | o :: l, h => by simp [badAt, h o (by simp), badAt_none all l (fun x hx => h x (by simp [hx]))]
theorem badAt_some (all : Nat) : ∀ (l : List Off) (k : Nat) (o : Off), l[k]? = some o → badB all o = true → (∀ j x, j < k → l[j]? = some x → badB all x = false) → badAt all l = some k
  | [], k, o, h, _, _ => by simp at h
  | x :: l, 0, o, h, hb, _ => by simp at h; subst h; simp [badAt, hb]
  | x :: l, k + 1, o, h, hb, hn => by
    have h0 := hn 0 x (by omega) rfl
    have := badAt_some all l k o (by simpa using h) hb (fun j y hj hy => hn (j + 1) y (by omega) (by simpa using hy))
    simp [badAt, h0, this]

set_option maxHeartbeats 400000 in
theorem index_any (all : Nat) (hall : all < 4294967296) (l : List Off) (v : Value) (R : Nat → Prop) (b : Nat) (w : World) (hl : Offs w R v l) (hc : w.cell? ⟨b, 0, none⟩ = some (.int .u32 all)) :
    Calls Try.prog 149 #[v, .func (.func 148) #[] #[.pointer (some ⟨b, 0, none⟩)]] w fun e w' => e = .returned (.int .i64 (badInt all l)) ∧ Below w.heap.size w w' := by
  obtain ⟨⟨hlen, A, cap, rfl, hncap, hcap, hcells⟩, hwf⟩ := hl
  unfold maxLen at hcap
  have hn : l.length ≤ 9223372036854775807 := by omega
  have hcb := World.block_lt_of_cell? w _ hc
  have HC := Lib.hid hcells
  have HL := Lib.hid hlen
  clear hcells hlen
  go_enter Try.func149, Try.ntmps149
  go_wp2
  go_loopw [8] (fun i wr => ∃ k : Nat, k ≤ l.length ∧ i = .int .i64 k ∧ Below w.heap.size w wr ∧ ∀ j x, j < k → l[j]? = some x → badB all x = false) (fun i _ => l.length - (intOf i).toNat)
  case atStart => exact ⟨0, Nat.zero_le _, rfl, Below.refl _ _, fun j x hj => by omega⟩
  case round =>
    obtain ⟨k, hk, rfl, hb, hno⟩ := hrel
    have HN := Lib.hid hno
    clear hno
    by_cases hlt : k < l.length
    · obtain ⟨bb, off, rfl, _, hbb, hcs⟩ := HC.out (by omega)
      have ho : l[k]? = some l[k] := List.getElem?_eq_getElem hlt
      obtain ⟨o, hol⟩ : ∃ o, o = l[k] := ⟨_, rfl⟩
      rw [← hol] at ho
      have c0 : wr.cell? ⟨bb, off + k * 2, none⟩ = some (.int .u32 o.g) := (hb.cell hbb).trans (hcs _ _ (Off.all_fst l k o ho))
      have c1 : wr.cell? ⟨bb, off + k * 2 + 1, none⟩ = some (.int .i64 o.c) := (hb.cell hbb).trans (hcs _ _ (Off.all_snd l k o ho))
      have hcr : wr.cell? ⟨b, 0, none⟩ = some (.int .u32 all) := (hb.cell hcb).trans hc
      have hwo := hwf o (by rw [hol]; exact List.getElem_mem hlt)
      clear hcs
      have HO := Lib.hid ho
      have HOL := Lib.hid hol
      clear ho hol
      go_wp2_with (go_at_call 148; refine (bad_any all hall o hwo b _ hcr).mono ?_; rintro e w1 ⟨rfl, hb1⟩)
      · go_ret
        refine ⟨ret_int ?_, hb.trans (hb1.mono hb.size)⟩
        have hbad : badB all o = true := by assumption
        unfold badInt
        rw [badAt_some all l k o HO.out hbad HN.out]
      · have hbad : badB all o = false := by assumption
        go_roundw
        case rel =>
          refine ⟨k + 1, by omega, by go_num, hb.trans (hb1.mono hb.size), fun j x hj hx => ?_⟩
          by_cases hjk : j < k
          · exact HN.out j x hjk hx
          · obtain rfl : j = k := by omega
            rw [HO.out] at hx
            cases hx
            exact hbad
        case measure => simp [intOf]; omega
    · go_wp2
      go_ret
      refine ⟨ret_int ?_, hb⟩
      unfold badInt
      rw [badAt_none all l (fun o ho => ?_)]
      obtain ⟨j, hj, rfl⟩ := List.getElem_of_mem ho
      exact HN.out j _ (by omega) (List.getElem?_eq_getElem hj)
end Go.Proofs.Ytcigobiolbojhaa.Vb

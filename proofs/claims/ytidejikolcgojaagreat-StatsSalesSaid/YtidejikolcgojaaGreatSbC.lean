/- Stats: rows of bits; lent rows. -/
import Derived.Test.YtidejikolcgojaaGreatStR
namespace Go.Proofs.YtidejikolcgojaaGreat.St
open Go.RowKit Go.Shelf
open Go.Proofs.YtidejikolcgojaaGreat.Vb Go.Proofs.YtidejikolcgojaaGreat.Ac
attribute [local go_sem] run_fadd run_fsub run_fmul run_fdiv run_store_float

def bts (l : List Nat) : List Value := l.map fun (x : Nat) => Value.int .u64 (x : Int)
/-- the slice v reads as the words l -/
def Bts (w : World) (R : Nat → Prop) (v : Value) (l : List Nat) : Prop := Sl w R v l.length 1 (bts l) ∧ ∀ x ∈ l, x < bits64
section
variable {w w' : World} {R : Nat → Prop} {v : Value} {l : List Nat}
theorem Bts.grow (h : Bts w R v l) (hb : Below w.heap.size w w') : Bts w' R v l := ⟨h.1.grow hb, h.2⟩
theorem Bts.form (h : Bts w R v l) : ∃ A c, v = .slice A l.length c ∧ l.length ≤ c ∧ c ≤ maxLen := by
  obtain ⟨⟨_, A', c', hv, h1, h2, _⟩, _⟩ := h
  exact ⟨A', c', hv, h1, h2⟩
theorem Bts.at_ {A : Option Addr} {n c k : Nat} {x : Nat} (h : Bts w R (.slice A n c) l) (hk : l[k]? = some x) :
    ∃ b off, A = some ⟨b, off, none⟩ ∧ R b ∧ b < w.heap.size ∧ w.cell? ⟨b, off + k, none⟩ = some (.int .u64 (x : Int)) ∧ x < bits64 := by
  obtain ⟨⟨_, A', c', hv, _, _, hcs⟩, hb⟩ := h
  injection hv with hA _ _
  subst hA
  have hlt := (List.getElem?_eq_some_iff.1 hk).1
  obtain ⟨b, off, hA, hR, hlt2, hcc⟩ := hcs (by omega)
  exact ⟨b, off, hA, hR, hlt2, hcc _ _ (by unfold bts; rw [List.getElem?_map, hk]; rfl), hb x (List.mem_of_getElem? hk)⟩
end
theorem ownL_nil (W : World) (base : Nat) : OwnL W base (.slice none 0 0) [] := ⟨World.ownsRow_nil _ _ _ _, by intro x hx; cases hx⟩
theorem ownL_form {W : World} {base : Nat} {v : Value} {l : List Nat} (h : OwnL W base v l) : ∃ A c, v = .slice A l.length c := own_form h.1
theorem ownL_app {W' : World} {base : Nat} {v' : Value} {l : List Nat} {x : Nat} (h2 : ∀ x ∈ l, x < bits64) (hx : x < bits64) (h : W'.ownsRow base 27 1 v' (l.length + 1) (flts l ++ [.float .f64 x])) : OwnL W' base v' (l ++ [x]) := by
  refine ⟨?_, ?_⟩
  · rw [List.length_append, flts_append]
    exact h
  · intro y hy
    rcases List.mem_append.1 hy with hy | hy
    · exact h2 y hy
    · obtain rfl : y = x := by simpa using hy
      exact hx
set_option maxRecDepth 100000 in
set_option maxHeartbeats 4000000 in
theorem row_any {l : List Nat} {v : Value} {R : Nat → Prop} {w : World} (h : Bts w R v l) (hle : l.length ≤ 1000) :
    Calls Tryz.prog 7 #[v] w fun e w' => ∃ v', e = .returned v' ∧ OwnL w' w.heap.size v' l ∧ Below w.heap.size w w' := by
  obtain ⟨A, cap, rfl, hnc, hcap⟩ := h.form
  have HL := Lib.hid h
  have hfb := run_frombits
  clear h
  go_enter Tryz.func7, Tryz.ntmps7
  go_wp2_with fail
  go_loopw [3, 4] (fun o i wr => ∃ k : Nat, k ≤ l.length ∧ i = .int .i64 k ∧ OwnL wr w.heap.size o (l.take k) ∧ Below w.heap.size w wr) (fun _ i _ => l.length - (intOf i).toNat)
  case atStart => exact ⟨0, Nat.zero_le _, rfl, ownL_nil _ _, Below.refl _ _⟩
  case round =>
    obtain ⟨k, hk, rfl, ho, hbl⟩ := hrel
    have HBL := Lib.hid hbl
    by_cases hlt : k < l.length
    · obtain ⟨p, hp⟩ : ∃ p, l[k]? = some p := ⟨_, List.getElem?_eq_getElem hlt⟩
      have HSN := Lib.hid (show l.take (k + 1) = l.take k ++ [p] by rw [List.take_add_one, hp]; rfl)
      obtain ⟨bq, off, rfl, _, _, q0, q1⟩ := (HL.out.grow hbl).at_ hp
      have HQ1 := Lib.hid q1
      obtain ⟨hown, hl3⟩ := ho
      have hll : (l.take k).length = k := by
        rw [List.length_take]
        omega
      obtain ⟨ll, hle2⟩ : ∃ ll, ll = l.take k := ⟨_, rfl⟩
      have HLE := Lib.hid hle2
      rw [← hle2] at hl3 hown hll HSN
      have HL3 := Lib.hid hl3
      rw [hll] at hown
      obtain ⟨B1, d1, rfl⟩ := own_form hown
      have HLL := Lib.hid hll
      have HOW := Lib.hid hown
      have e1 : (0 : Int) ≤ (k : Int) := by omega
      have e2 : (k : Int) < (l.length : Int) := by omega
      have e3 : ((p : Int)).toNat = p := Int.toNat_natCast p
      have hsz := hbl.size
      clear hp hl3 hown hll q1 hbl hle2
      go_wp2_with (at_builtin; go_must (have HSL := Lib.hid (show Sl (wr.alloc (.cells #[.float .f64 p] 27)) (fun _ => True) (.slice (some ⟨wr.heap.size, 0, none⟩) 1 1) 1 1 [.float .f64 p] from (Sl.new wr #[.float .f64 p] 27 1 1 (by unfold maxLen; omega) rfl).mono fun _ _ _ => trivial); refine wpList_app _ rfl (.tmp 11) (.tmp 17) et_f64 rfl w.heap.size (.slice B1 k d1) k (flts ll) rfl (own_grow HOW.out ((Below.refl wr.heap.size wr).alloc (Nat.le_refl _) (.cells #[.float .f64 p] 27))) _ _ 1 _ rfl HSL.out (by simp [Value.oneCell']) (by omega) (by unfold maxLen; omega) (by simp; omega) ?_; intro A5 c5 w5 hown5 hg5 _; have HB5 := Lib.hid ((HBL.out.alloc (by omega) (.cells #[.float .f64 p] 27)).grown hg5 (by simp; omega) (fun r e => (HOW.out.lt r e).1)); have HO5 := Lib.hid hown5; clear hown5 hg5))
      go_wp2_with fail
      go_roundw
      case rel => exact ⟨k + 1, by omega, by go_num, by rw [HSN.out]; exact ownL_app HL3.out HQ1.out (by rw [HLL.out]; exact HO5.out), HB5.out⟩
      case measure => simp [intOf]; omega
    · obtain rfl : k = l.length := by omega
      rw [List.take_length] at ho
      obtain ⟨A5, c5, rfl⟩ := ownL_form ho
      have HO := Lib.hid ho
      clear ho hbl
      go_wp2_with fail
      go_ret
      exact ⟨_, rfl, HO.out, HBL.out⟩
end Go.Proofs.YtidejikolcgojaaGreat.St

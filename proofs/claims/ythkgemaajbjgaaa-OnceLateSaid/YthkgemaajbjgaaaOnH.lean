/- Once: a key's task; how many jobs were done. -/
import Derived.Test.YthkgemaajbjgaaaOnG
namespace Go.Proofs.Ythkgemaajbjgaaa.On
open Go.RowKit
open Go.ChangeMaps (setBlock)
open Go.Proofs.Ythkgemaajbjgaaa.Vb Go.Proofs.Ythkgemaajbjgaaa.Ac

set_option maxRecDepth 100000 in
theorem add64_any (b : Nat) (x : Int) (w : World) (hc : w.cell? ⟨b, 3, none⟩ = some (.int .i64 x)) (hz : w.frozen? ⟨b, 3, none⟩ = false) (hx : -9223372036854775808 ≤ x + 1 ∧ x + 1 ≤ 9223372036854775807) :
    Calls Try.prog 42 #[.pointer (some ⟨b, 3, none⟩), .int .i64 1] w fun e w' => e = .returned (.int .i64 (x + 1)) ∧ w' = w.setCell ⟨b, 3, none⟩ (.int .i64 (x + 1)) := by
  have e1 : IntKind.i64.wrap (x + 1) = x + 1 := IntWalk.i64_in _ hx
  have hadd := run_call_add (P := Try.prog) Try.func69 (by kernel_rfl) (by kernel_rfl) (by kernel_rfl) .i64 (by kernel_rfl) (y := 1) (s := x + 1) hc hz (by simp [go_sem, e1])
  clear hx e1
  go_enter Try.func42, Try.ntmps42
  go_wp2_with fail
  go_ret
  exact ⟨rfl, rfl⟩
set_option maxRecDepth 100000 in
theorem load64_any (a : Addr) (x : Int) (w : World) (hc : w.cell? a = some (.int .i64 x)) :
    Calls Try.prog 31 #[.pointer (some a)] w fun e w' => e = .returned (.int .i64 x) ∧ w' = w := by
  have hl := run_call_load (P := Try.prog) Try.func61 (by kernel_rfl) (by kernel_rfl) (by kernel_rfl) .i64 (by kernel_rfl) hc
  go_enter Try.func31, Try.ntmps31
  go_wp2_with fail
  go_ret
  exact ⟨rfl, rfl⟩
set_option maxRecDepth 100000 in
theorem runs_any {W : World} {k m : Nat} {L r : Int} {es : Array MapEntry} {clock : Nat} (hK : KeepAt W k m L r es clock) :
    Calls Try.prog 17 #[.pointer (some ⟨k, 0, none⟩)] W fun e W' => e = .returned (.int .i64 r) ∧ W' = W := by
  have c3 := hK.cells.2.2
  clear hK
  go_enter Try.func17, Try.ntmps17
  go_wp2_with fail
  refine (load64_any _ r W c3).mono ?_
  rintro e A ⟨rfl, hA⟩
  rw [hA]
  clear hA
  go_wp2_with fail
  go_ret
  exact ⟨rfl, rfl⟩
set_option maxRecDepth 100000 in
set_option maxHeartbeats 3200000 in
/-- the key is there -/
theorem of_old {W : World} {k m : Nat} {r : Int} {es : Array MapEntry} {clock : Nat} {key : ByteArray} {i : Nat} {v : Value} (hK : KeepAt W k m 0 r es clock) (hf : at1 es key (some (i, v))) :
    Calls Try.prog 41 #[.pointer (some ⟨k, 0, none⟩), .string key] W fun e W' => e = .returned v ∧ KeepAt W' k m 0 r es clock ∧ Chg (· = k) W W' := by
  have hnot : ∀ (x : Bool) (w : World), (Op.unary .not (.bool x)).run Try.prog w = .ok (.bool (!x)) w := fun _ _ => rfl
  have HK := Lib.hid hK
  have HF := Lib.hid hf
  clear hK hf
  go_enter_defers Try.func41, Try.ntmps41
  go_wp2_with fail
  refine (lock_any ⟨k, 0, none⟩ W HK.out.cells.1 (HK.out.fro 0)).mono ?_
  rintro e A ⟨rfl, hA⟩
  have hKA : KeepAt A k m 1 r es clock := by rw [hA]; exact HK.out.set0 1
  have HCA := Lib.hid (show Chg (· = k) W A by rw [hA]; exact Chg.set W ⟨k, 0, none⟩ _)
  have HKA := Lib.hid hKA
  have a2 := hKA.cells.2.1
  have hlook := look_at hKA.map HF.out
  clear hA hKA
  go_wp2_with fail
  refine leaves_cons (f := 33) (args := #[.pointer (some ⟨k, 0, none⟩)]) (by simp) (by simp [go_sem]) ?_
  refine (unlock_def ⟨k, 0, none⟩ _ _ HKA.out.cells.1 (HKA.out.fro 0)).mono ?_
  rintro e u' D ⟨rfl, rfl, hD⟩
  simp [Leaves, settle, results, Try.results41]
  rw [hD]
  exact ⟨HKA.out.set0 0, HCA.out.trans (Chg.set _ ⟨k, 0, none⟩ _)⟩
set_option maxRecDepth 100000 in
set_option maxHeartbeats 3200000 in
/-- the key is new -/
theorem of_new {W : World} {k m : Nat} {r : Int} {es : Array MapEntry} {clock : Nat} {key : ByteArray} (hK : KeepAt W k m 0 r es clock) (hf : at1 es key none) :
    Calls Try.prog 41 #[.pointer (some ⟨k, 0, none⟩), .string key] W fun e W' => e = .returned (.pointer (some ⟨W.heap.size, 0, none⟩)) ∧
      KeepAt W' k m 0 r (es.push ⟨.string key, .pointer (some ⟨W.heap.size, 0, none⟩), clock⟩) (clock + 1) ∧ TaskAt W' W.heap.size 0 0 0 0 false none ∧ Chg (fun x => x = k ∨ x = m) W W' := by
  have hnot : ∀ (x : Bool) (w : World), (Op.unary .not (.bool x)).run Try.prog w = .ok (.bool (!x)) w := fun _ _ => rfl
  have HK := Lib.hid hK
  have HF := Lib.hid hf
  clear hK hf
  go_enter_defers Try.func41, Try.ntmps41
  go_wp2_with fail
  refine (lock_any ⟨k, 0, none⟩ W HK.out.cells.1 (HK.out.fro 0)).mono ?_
  rintro e A ⟨rfl, hA⟩
  have hKA : KeepAt A k m 1 r es clock := by rw [hA]; exact HK.out.set0 1
  have HCA := Lib.hid (show Chg (· = k) W A by rw [hA]; exact Chg.set W ⟨k, 0, none⟩ _)
  have HKA := Lib.hid hKA
  have HS := Lib.hid (show A.heap.size = W.heap.size by rw [hA]; simp [World.setCell])
  have a2 := hKA.cells.2.1
  have hlook := look_at hKA.map HF.out
  clear hA hKA
  obtain ⟨o, ho⟩ : ∃ o, o = Obj.cells #[.int .u32 0, .int .i32 0, .int .u32 0, .int .u32 0, .int .i64 0, .bool false] 49 := ⟨_, rfl⟩
  have hKB := HKA.out.grow ((Below.refl _ A).alloc (Nat.le_refl _) o)
  have HKB := Lib.hid hKB
  have b2 : (A.alloc (Obj.cells #[.int .u32 0, .int .i32 0, .int .u32 0, .int .u32 0, .int .i64 0, .bool false] 49)).cell? ⟨k, 2, none⟩ = some (.map (some m)) := by rw [← ho]; exact hKB.cells.2.1
  have hput : (Instr.mapUpdate 76 (.map (some m)) (.string key) (.pointer (some ⟨A.heap.size, 0, none⟩))).run Try.prog (A.alloc (Obj.cells #[.int .u32 0, .int .i32 0, .int .u32 0, .int .u32 0, .int .i64 0, .bool false] 49)) = .ok () (setBlock (A.alloc o) m (.map (es.push ⟨.string key, .pointer (some ⟨A.heap.size, 0, none⟩), clock⟩) (clock + 1))) := by rw [← ho]; exact put_at hKB.map HF.out
  have HO := Lib.hid ho
  clear hKB ho
  go_wp2_with fail
  have hT0 : TaskAt (A.alloc o) A.heap.size 0 0 0 0 false none := by rw [HO.out]; exact ⟨_, _, Blk.new _ _ _, rfl, rfl, rfl, rfl, rfl, rfl⟩
  obtain ⟨B, hB⟩ : ∃ B, B = setBlock (A.alloc o) m (.map (es.push ⟨.string key, .pointer (some ⟨A.heap.size, 0, none⟩), clock⟩) (clock + 1)) := ⟨_, rfl⟩
  have hcB : Chg (· = m) (A.alloc o) B := by rw [hB]; exact chg_setBlock HKB.out.map _
  have hmA : m < A.heap.size := HKA.out.mlt
  have HTB := Lib.hid (hT0.chg hcB (by show ¬ A.heap.size = m; omega))
  have HLB := Lib.hid (show KeepAt B k m 1 r (es.push ⟨.string key, .pointer (some ⟨A.heap.size, 0, none⟩), clock⟩) (clock + 1) by rw [hB]; exact HKB.out.laid _)
  have HCB := Lib.hid (show Chg (fun x => x = k ∨ x = m) W B from ((HCA.out.mono fun _ _ e => .inl e).trans (Chg.of _ ((Below.refl _ A).alloc (Nat.le_refl _) o))).trans (hcB.mono fun _ _ e => .inr e))
  clear hT0 hcB hput b2 a2 hlook
  rw [← hB]
  clear hB
  have hs := HS.out
  rw [hs] at HTB HLB ⊢
  refine leaves_cons (f := 33) (args := #[.pointer (some ⟨k, 0, none⟩)]) (by simp) (by simp [go_sem]) ?_
  refine (unlock_def ⟨k, 0, none⟩ _ _ HLB.out.cells.1 (HLB.out.fro 0)).mono ?_
  rintro e u' D ⟨rfl, rfl, hD⟩
  simp [Leaves, settle, results, Try.results41]
  rw [hD]
  have hk : k < W.heap.size := HK.out.lt
  exact ⟨HLB.out.set0 0, HTB.out.chg (Chg.set _ ⟨k, 0, none⟩ _) (by show ¬ W.heap.size = k; omega), HCB.out.trans ((Chg.set _ ⟨k, 0, none⟩ _).mono fun _ _ e => .inl e)⟩
end Go.Proofs.Ythkgemaajbjgaaa.On

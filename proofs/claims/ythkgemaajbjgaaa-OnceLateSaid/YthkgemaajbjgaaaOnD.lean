/- Once: sync.Once's Do; a task's do. -/
import Derived.Test.YthkgemaajbjgaaaOnC
namespace Go.Proofs.Ythkgemaajbjgaaa.On
open Go.RowKit
open Go.Proofs.Ythkgemaajbjgaaa.Vb Go.Proofs.Ythkgemaajbjgaaa.Ac

set_option maxRecDepth 100000 in
set_option maxHeartbeats 3200000 in
theorem slow_any {b : Nat} {ca : Array Value} {o v0 o' v' : Int} {br br' : Bool} {j : Option Value} {W : World} (R : World → World → Prop) (hT : TaskAt W b 0 0 o v0 br j)
    (hf : ∀ A, Chg (· = b) W A → TaskAt A b 0 1 o v0 br j → Calls Try.prog 38 ca A fun e B => e = .returned (.tuple #[]) ∧ TaskAt B b 0 1 o' v' br' j ∧ R A B) :
    Calls Try.prog 66 #[.pointer (some ⟨b, 0, none⟩), .func (.func 38) #[] ca] W fun e W' => e = .returned (.tuple #[]) ∧ TaskAt W' b 1 0 o' v' br' j ∧ ∃ A B, Chg (· = b) W A ∧ R A B ∧ Chg (· = b) B W' := by
  have hnot : ∀ (x : Bool) (w : World), (Op.unary .not (.bool x)).run Try.prog w = .ok (.bool (!x)) w := fun _ _ => rfl
  have HT := Lib.hid hT
  have HF := Lib.hid hf
  clear hT hf
  go_enter_defers Try.func66, Try.ntmps66
  go_wp2_with fail
  refine (lock_any ⟨b, 1, none⟩ W HT.out.cells.2.1 (HT.out.fro 1)).mono ?_
  rintro e A ⟨rfl, hA⟩
  have hTA : TaskAt A b 0 1 o v0 br j := by rw [hA]; exact HT.out.set1 1
  have HCA := Lib.hid (show Chg (· = b) W A by rw [hA]; exact Chg.set W ⟨b, 1, none⟩ _)
  have HTA := Lib.hid hTA
  clear hA hTA
  go_wp2_with fail
  refine (load_any ⟨b, 0, none⟩ 0 A HTA.out.cells.1).mono ?_
  rintro e A' ⟨rfl, hA'⟩
  rw [hA']
  clear hA'
  go_wp2_with fail
  refine (HF.out A HCA.out HTA.out).mono ?_
  rintro e B ⟨rfl, hTB, hR⟩
  have HTB := Lib.hid hTB
  have HR := Lib.hid hR
  clear hTB hR
  go_wp2_with fail
  refine leaves_cons (f := 39) (args := #[.pointer (some ⟨b, 0, none⟩), .bool true]) (by simp) (by simp [go_sem]) ?_
  refine (store_def ⟨b, 0, none⟩ (.int .u32 0) _ _ HTB.out.cells.1 (HTB.out.fro 0)).mono ?_
  rintro e u' C ⟨rfl, rfl, hC⟩
  have hTC : TaskAt C b 1 1 o' v' br' j := by rw [hC]; exact (HTB.out.grow ((Below.refl _ _).drew)).set0 1
  have hcC : Chg (· = b) B C := by rw [hC]; exact ((Chg.refl _ B).drewN 1).trans (Chg.set _ ⟨b, 0, none⟩ _)
  clear hC
  refine leaves_cons (f := 33) (args := #[.pointer (some ⟨b, 1, none⟩)]) (by simp [settle]) (by simp [go_sem]) ?_
  refine (unlock_def ⟨b, 1, none⟩ _ _ hTC.cells.2.1 (hTC.fro 1)).mono ?_
  rintro e u' D ⟨rfl, rfl, hD⟩
  have hTD : TaskAt D b 1 0 o' v' br' j := by rw [hD]; exact hTC.set1 0
  have hcD : Chg (· = b) B D := by rw [hD]; exact hcC.trans (Chg.set _ ⟨b, 1, none⟩ _)
  clear hD
  simp [Leaves, settle, results, Try.results66]
  exact ⟨hTD, A, HCA.out, B, HR.out, hcD⟩
set_option maxRecDepth 100000 in
set_option maxHeartbeats 3200000 in
theorem onceDo_first {b : Nat} {ca : Array Value} {o v0 o' v' : Int} {br br' : Bool} {j : Option Value} {W : World} (R : World → World → Prop) (hT : TaskAt W b 0 0 o v0 br j)
    (hf : ∀ A, Chg (· = b) W A → TaskAt A b 0 1 o v0 br j → Calls Try.prog 38 ca A fun e B => e = .returned (.tuple #[]) ∧ TaskAt B b 0 1 o' v' br' j ∧ R A B) :
    Calls Try.prog 37 #[.pointer (some ⟨b, 0, none⟩), .func (.func 38) #[] ca] W fun e W' => e = .returned (.tuple #[]) ∧ TaskAt W' b 1 0 o' v' br' j ∧ ∃ A B, Chg (· = b) W A ∧ R A B ∧ Chg (· = b) B W' := by
  have hnot : ∀ (x : Bool) (w : World), (Op.unary .not (.bool x)).run Try.prog w = .ok (.bool (!x)) w := fun _ _ => rfl
  have HT := Lib.hid hT
  have HF := Lib.hid hf
  clear hT hf
  go_enter Try.func37, Try.ntmps37
  go_wp2_with fail
  refine (load_any ⟨b, 0, none⟩ 0 W HT.out.cells.1).mono ?_
  rintro e A' ⟨rfl, hA'⟩
  rw [hA']
  clear hA'
  go_wp2_with fail
  refine (slow_any R HT.out HF.out).mono ?_
  rintro e W' ⟨rfl, h1, h2⟩
  have H1 := Lib.hid h1
  have H2 := Lib.hid h2
  clear h1 h2
  go_wp2_with fail
  go_end0
  exact ⟨rfl, H1.out, H2.out⟩
set_option maxRecDepth 100000 in
theorem onceDo_done {b : Nat} {fv : Value} {d L o v0 : Int} {br : Bool} {j : Option Value} {W : World} (hT : TaskAt W b d L o v0 br j) (hd : d ≠ 0) :
    Calls Try.prog 37 #[.pointer (some ⟨b, 0, none⟩), fv] W fun e W' => e = .returned (.tuple #[]) ∧ W' = W := by
  have hnot : ∀ (x : Bool) (w : World), (Op.unary .not (.bool x)).run Try.prog w = .ok (.bool (!x)) w := fun _ _ => rfl
  have hd' : (d != 0) = true := by simp [hd]
  have HT := Lib.hid hT
  clear hT hd
  go_enter Try.func37, Try.ntmps37
  go_wp2_with fail
  refine (load_any ⟨b, 0, none⟩ d W HT.out.cells.1).mono ?_
  rintro e A' ⟨rfl, hA'⟩
  rw [hA', hd']
  clear hA'
  go_wp2_with fail
  go_end0
  exact ⟨rfl, rfl⟩
end Go.Proofs.Ythkgemaajbjgaaa.On

/- Stats: what the names' rows come to, computed; Copysign. -/
import Derived.Test.YtidejikolcgojaaSbB
namespace Go.Proofs.Ytidejikolcgojaa.St
open Go.RowKit Go.Shelf
open Go.Proofs.Ytidejikolcgojaa.Vb Go.Proofs.Ytidejikolcgojaa.Ac
attribute [local go_sem] run_fadd run_fsub run_fmul run_fdiv run_store_float

abbrev nLow : Nat := 9223372036854775808
theorem copysign_any (w : World) : Calls Try.prog 13 #[.float .f64 0, .float .f64 nm1] w fun e w' => e = .returned (.float .f64 nLow) ∧ w' = w := by
  have r1 := run_bits
  have r2 := run_frombits
  go_enter Try.func13, Try.ntmps13
  go_wp2_with fail
  go_ret
  refine ⟨?_, rfl⟩
  first | rfl | kernel_rfl
theorem j_okl1 : okL [0, nLow] = [0, nLow] := by kernel_rfl
theorem j_sort1 : sortB [0, nLow] = [nLow, 0] := (sortB_uniq (by decide) (by decide) (by decide)).symm
theorem j_endA : endA [0, nLow] = nLow := by unfold endA; rw [j_okl1, j_sort1]; rfl
theorem j_endB : endB [0, nLow] = 0 := by unfold endB; rw [j_okl1, j_sort1]; rfl
theorem j_okl2 : okL [nNaN] = [] := by kernel_rfl
theorem j_mid1 : (if midNo n2 [n1] then none else fzero (midL n2 [n1])) = none := by rw [if_pos (by kernel_rfl)]
theorem j_mid2 : (if midNo 0 [nNaN] then none else fzero (midL 0 [nNaN])) = none := by rw [if_pos (by kernel_rfl)]
theorem j_uneq : (if uneqNo [] then none else fzero (uneqL [])) = none := by rw [if_pos (by kernel_rfl)]
theorem j_shares : (if ([] : List Nat) = [] then none else fzero (sharesL [])) = none := if_pos rfl
theorem j_fit1 : fitNo [n1] [n1] = true := by kernel_rfl
theorem j_fit2 : fitNo [n1, n1] [n2, n3] = true := by kernel_rfl
theorem j_of : ofV [] = #[.int .i64 0, .int .i64 0, .int .i64 0, .int .i64 0, .int .i64 0, .int .i64 0] := by kernel_rfl
theorem j_sum : fzero (sumL (nums [nLow])) = some 0 := by kernel_rfl
theorem j_sort2 : sortB [nLow] = [nLow] := (sortB_uniq (by decide) (by decide) (by decide)).symm
theorem j_mid3 : (if midNo 0 [nLow] then none else fzero (midL 0 [nLow])) = some 0 := by
  unfold midL
  rw [j_sort2]
  kernel_rfl
theorem j_mean : fzero (meanL [nLow]) = some 0 := by kernel_rfl
theorem j_worth : fzero (worthF (some n2) (nums [])) = some 0 := by kernel_rfl
theorem j_turnR : turnR [] = some 0 := by kernel_rfl
theorem j_turnI : turnI [] = some 0 := by kernel_rfl
theorem sals_nil (w : World) : Sals w (fun _ => True) (.slice none 0 0) [] := ⟨⟨rfl, none, 0, rfl, Nat.le_refl _, Nat.zero_le _, fun h => absurd h (by decide)⟩, fun x hx => by cases hx⟩
end Go.Proofs.Ytidejikolcgojaa.St

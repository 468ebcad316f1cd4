/- Stats: package math's functions that are met; plain, Zero, Same, told. -/
import Derived.Test.YtidejikolcgojaaStB
import Derived.Laws.Externs
import Derived.Laws.BitsAll
import Derived.Laws.BitsAllLaws
namespace Go.Proofs.Ytidejikolcgojaa.St
open Go.RowKit Go.Shelf
open Go.Proofs.Ytidejikolcgojaa.Vb Go.Proofs.Ytidejikolcgojaa.Ac
attribute [local go_sem] run_fadd run_fsub run_fmul run_fdiv run_store_float

theorem run_bits (x : Nat) (w : World) : (callFunc 30 #[.float .f64 x]).run Try.prog w = .ok (.value (.int .u64 x)) w :=
  (run_callFunc_extern (e := Extern.MathFloatBits.float64bits) Try.func30 (by kernel_rfl) (by kernel_rfl) (by kernel_rfl) (by kernel_rfl) _ w).trans rfl
theorem run_frombits (x : Int) (w : World) : (callFunc 35 #[.int .u64 x]).run Try.prog w = .ok (.value (.float .f64 x.toNat)) w :=
  (run_callFunc_extern (e := Extern.MathFloatBits.float64frombits) Try.func35 (by kernel_rfl) (by kernel_rfl) (by kernel_rfl) (by kernel_rfl) _ w).trans rfl
def sqV (x : Nat) (w : World) : Nat := (Ieee.double.sqrt x).getD (Question.cut (.nanBits .f64 x x) (w.tape w.drawn (.nanBits .f64 x x)))
def sqN (x : Nat) : Nat := if (Ieee.double.sqrt x).isSome then 0 else 1
theorem run_sqrt (x : Nat) (w : World) : (callFunc 56 #[.float .f64 x]).run Try.prog w = .ok (.value (.float .f64 (sqV x w))) (w.drewN (sqN x)) := by
  refine (run_callFunc_extern (e := Extern.MathSqrt.sqrt) Try.func56 (by kernel_rfl) (by kernel_rfl) (by kernel_rfl) (by kernel_rfl) _ w).trans ?_
  show (Sem.run Try.prog (Extern.MathSqrt.sqrt #[.float .f64 x]) w).andThen _ = _
  have e : Extern.MathSqrt.sqrt #[.float .f64 x] = (match Ieee.double.sqrt x with | some r => pure (.float .f64 r) | none => do pure (.float .f64 (← choose (.nanBits .f64 x x))) : Sem Value) := rfl
  rw [e]
  unfold sqV sqN
  cases Ieee.double.sqrt x with
  | some r => rfl
  | none => rfl
def floorB (x : Nat) : Nat := Ieee.double.write ((Ieee.double.read x).integral .down)
theorem run_floor {x : Nat} (h : isN x = false) (w : World) : (callFunc 50 #[.float .f64 x]).run Try.prog w = .ok (.value (.float .f64 (floorB x))) w := by
  refine (run_callFunc_extern (e := Extern.MathFloor.toIntegral "math.archFloor" .down) Try.func50 (by kernel_rfl) (by kernel_rfl) (by kernel_rfl) (by kernel_rfl) _ w).trans ?_
  show (Sem.run Try.prog (Extern.MathFloor.toIntegral "math.archFloor" .down #[.float .f64 x]) w).andThen _ = _
  rw [← read_nan] at h
  have e : Extern.MathFloor.toIntegral "math.archFloor" .down #[.float .f64 x] = (match Ieee.double.read x with
    | .nan s t =>
      if Ieee.double.quiet t = t then pure (.float .f64 x) else do
      let kept ← choose (.extern "math.Floor,Ceil,Trunc,RoundToEven.signallingNaN kept" 2)
      pure (.float .f64 (if kept == 1 then x else Ieee.double.write (.nan s (Ieee.double.quiet t))))
    | d => pure (.float .f64 (Ieee.double.write (d.integral .down))) : Sem Value) := rfl
  rw [e]
  unfold floorB
  cases hd : Ieee.double.read x with
  | nan s t => rw [hd] at h; cases h
  | infinity s => rfl
  | number s m i => rfl

theorem abs_bits (x : Nat) (h : x < 18446744073709551616) : (bits .andNot .u64 (x : Int) 9223372036854775808).toNat = x % 9223372036854775808 := by
  have := u64_andNot_nat x 9223372036854775808 h (by omega)
  rw [show ((9223372036854775808 : Nat) : Int) = 9223372036854775808 from rfl] at this
  rw [this, Int.toNat_natCast]
  have e : (18446744073709551615 - 9223372036854775808 : Nat) = 2 ^ 63 - 1 := by decide
  rw [e, Nat.and_two_pow_sub_one_eq_mod]
set_option maxRecDepth 100000 in
theorem abs_any {x : Nat} {f : Fl} (h : IsF x f) (w : World) : Calls Try.prog 61 #[.float .f64 x] w fun e w' => ∃ r, e = .returned (.float .f64 r) ∧ IsF r (fabs f) ∧ w' = w := by
  obtain ⟨hx, rfl⟩ := h
  have r1 := run_bits
  have r2 := run_frombits
  have hx' : x < 18446744073709551616 := hx
  go_enter Try.func61, Try.ntmps61
  go_wp2_with fail
  rw [abs_bits x hx']
  go_ret
  exact ⟨_, rfl, ⟨by unfold bits64; omega, cn_abs⟩, rfl⟩
theorem isNaN_any (x : Nat) (w : World) : Calls Try.prog 27 #[.float .f64 x] w fun e w' => e = .returned (.bool (isN x)) ∧ w' = w := by
  have HN := Lib.hid (neq_self x)
  go_enter Try.func27, Try.ntmps27
  go_wp2_with fail
  go_ret
  exact ⟨by rw [← HN.out]; rfl, rfl⟩
theorem nan_any (w : World) : Calls Try.prog 14 #[] w fun e w' => e = .returned (.float .f64 9221120237041090561) ∧ w' = w := by
  have r2 := run_frombits
  go_enter Try.func14, Try.ntmps14
  go_wp2_with fail
  go_ret
  exact ⟨rfl, rfl⟩
def fsqrt : Fl → Fl
  | some x => Ieee.double.sqrt x
  | none => none
theorem sqrt_nan {x : Nat} (h : isN x = true) : Ieee.double.sqrt x = none := by
  rw [← read_nan] at h
  obtain ⟨s, t, h⟩ := isNaN_nan h
  show ((Ieee.double.read x).root _).map Ieee.double.write = none
  rw [h]
  rfl
theorem isF_sqrt {x : Nat} {f : Fl} (h : IsF x f) (w : World) : IsF (sqV x w) (fsqrt f) := by
  obtain ⟨hx, rfl⟩ := h
  have e : (2 : Nat) ^ Ieee.double.width = bits64 := by decide +kernel
  have hc : fsqrt (cn x) = Ieee.double.sqrt x := by
    unfold cn
    cases hn : isN x with
    | true => exact (sqrt_nan hn).symm
    | false => rfl
  rw [hc]
  unfold sqV
  cases h : Ieee.double.sqrt x with
  | some r =>
    refine ⟨by rw [← e]; exact Ieee.Format.sqrt_lt _ h, ?_⟩
    unfold cn
    rw [Option.getD_some, map_num (fun c hc => root_num hc) h]
    rfl
  | none =>
    obtain ⟨h1, h2⟩ := nan_cut x x (w.tape w.drawn (.nanBits .f64 x x))
    exact ⟨h1, by unfold cn; rw [Option.getD_none, h2]; rfl⟩
theorem sqrt_any {x : Nat} {f : Fl} (h : IsF x f) (w : World) : Calls Try.prog 43 #[.float .f64 x] w fun e w' => ∃ r n, e = .returned (.float .f64 r) ∧ IsF r (fsqrt f) ∧ w' = w.drewN n := by
  have H := Lib.hid (isF_sqrt h w)
  have r1 := run_sqrt x
  clear h
  go_enter Try.func43, Try.ntmps43
  go_wp2_with fail
  go_ret
  exact ⟨_, _, rfl, H.out, rfl⟩
theorem floor_num {x : Nat} (h : isN x = false) : floorB x < bits64 ∧ isN (floorB x) = false := by
  refine ⟨f64_lt _, write_num ?_⟩
  rw [← read_nan] at h
  cases hd : Ieee.double.read x with
  | nan s t => rw [hd] at h; cases h
  | infinity s => rfl
  | number s m i => rfl
theorem floor_any {x : Nat} (h : isN x = false) (w : World) : Calls Try.prog 29 #[.float .f64 x] w fun e w' => e = .returned (.float .f64 (floorB x)) ∧ w' = w := by
  have r1 := fun w => run_floor h w
  clear h
  go_enter Try.func29, Try.ntmps29
  go_wp2_with fail
  go_ret
  exact ⟨rfl, rfl⟩
theorem signbit_any {x : Nat} (h : x < bits64) (w : World) : Calls Try.prog 18 #[.float .f64 x] w fun e w' => e = .returned (.bool (decide (9223372036854775808 ≤ x))) ∧ w' = w := by
  have r1 := run_bits
  have hx : x < 18446744073709551616 := h
  go_enter Try.func18, Try.ntmps18
  go_wp2_with fail
  go_ret
  refine ⟨?_, rfl⟩
  have e : decide (wrap64 (x : Int) < 0) = decide (9223372036854775808 ≤ x) := by
    rw [decide_eq_decide]
    unfold wrap64
    omega
  rw [← e]
  rfl

/-- nought without a sign -/
def fzero (f : Fl) : Fl := if ford f (some 0) == some .eq then some 0 else f
theorem zero_isF : IsF 0 (some 0) := ⟨by decide, by decide⟩
theorem plain_any {x : Nat} {f : Fl} (h : IsF x f) (w : World) : Calls Try.prog 21 #[.float .f64 x] w fun e w' => ∃ r, e = .returned (.float .f64 r) ∧ IsF r (fzero f) ∧ w' = w := by
  have ho := order_isF h zero_isF
  have H := Lib.hid h
  have HZ := Lib.hid (show fzero f = if ford f (some 0) == some .eq then some 0 else f from rfl)
  by_cases hc : (ford f (some 0) == some .eq) = true
  · have d1 : (FloatKind.f64.format.order x 0 == some .eq) = true := by rw [ho]; exact hc
    have HC := Lib.hid hc
    clear h ho hc
    go_enter Try.func21, Try.ntmps21
    go_wp2_with fail
    go_ret
    exact ⟨_, rfl, by rw [HZ.out, if_pos HC.out]; exact zero_isF, rfl⟩
  · have d1 : (FloatKind.f64.format.order x 0 == some .eq) = false := by rw [ho]; simpa using hc
    have HC := Lib.hid hc
    clear h ho hc
    go_enter Try.func21, Try.ntmps21
    go_wp2_with fail
    go_ret
    exact ⟨_, rfl, by rw [HZ.out, if_neg HC.out]; exact H.out, rfl⟩
def fsame : Fl → Fl → Bool
  | none, none => true
  | some x, some y => x == y
  | _, _ => false
theorem fsame_self (f : Fl) : fsame f f = true := by cases f <;> simp [fsame]
theorem same_any {x y : Nat} {f g : Fl} (hx : IsF x f) (hy : IsF y g) (w : World) : Calls Try.prog 10 #[.float .f64 x, .float .f64 y] w fun e w' => e = .returned (.bool (fsame f g)) ∧ w' = w := by
  have r1 := run_bits
  have hx1 := neq_self x
  have hy1 := neq_self y
  obtain ⟨_, rfl⟩ := hx
  obtain ⟨_, rfl⟩ := hy
  obtain ⟨z, hz⟩ : ∃ z, z = fsame (cn x) (cn y) := ⟨_, rfl⟩
  rw [← hz]
  have hb : ((x : Int) == (y : Int)) = (x == y) := natBeq x y
  cases h1 : isN x with
  | true =>
    have d1 : (FloatKind.f64.format.order x x != some .eq) = true := hx1.trans h1
    cases h2 : isN y with
    | true =>
      have d2 : (FloatKind.f64.format.order y y != some .eq) = true := hy1.trans h2
      have HZ := Lib.hid (show z = true by rw [hz]; unfold cn; rw [h1, h2]; rfl)
      clear hx1 hy1 hz hb h1 h2
      go_enter Try.func10, Try.ntmps10
      go_wp2_with fail
      go_ret
      exact ⟨by rw [HZ.out]; rfl, rfl⟩
    | false =>
      have d2 : (FloatKind.f64.format.order y y != some .eq) = false := hy1.trans h2
      have HZ := Lib.hid (show z = false by rw [hz]; unfold cn; rw [h1, h2]; rfl)
      clear hx1 hy1 hz hb h1 h2
      go_enter Try.func10, Try.ntmps10
      go_wp2_with fail
      go_ret
      exact ⟨by rw [HZ.out]; rfl, rfl⟩
  | false =>
    have d1 : (FloatKind.f64.format.order x x != some .eq) = false := hx1.trans h1
    cases h2 : isN y with
    | true =>
      have d2 : (FloatKind.f64.format.order y y != some .eq) = true := hy1.trans h2
      have HZ := Lib.hid (show z = false by rw [hz]; unfold cn; rw [h1, h2]; rfl)
      clear hx1 hy1 hz hb h1 h2
      go_enter Try.func10, Try.ntmps10
      go_wp2_with fail
      go_ret
      exact ⟨by rw [HZ.out]; rfl, rfl⟩
    | false =>
      have d2 : (FloatKind.f64.format.order y y != some .eq) = false := hy1.trans h2
      have HZ := Lib.hid (show z = (x == y) by rw [hz]; unfold cn; rw [h1, h2]; rfl)
      clear hx1 hy1 hz h1 h2
      have HB := Lib.hid hb
      clear hb
      go_enter Try.func10, Try.ntmps10
      go_wp2_with fail
      go_ret
      exact ⟨by rw [HZ.out, ← HB.out]; rfl, rfl⟩
/-- does x stand ahead of y? -/
def fless (x y : Nat) : Bool := (Ieee.double.order x y == some .lt) || (Ieee.double.order x y == some .eq && decide (9223372036854775808 ≤ x) && !decide (9223372036854775808 ≤ y))
end Go.Proofs.Ytidejikolcgojaa.St

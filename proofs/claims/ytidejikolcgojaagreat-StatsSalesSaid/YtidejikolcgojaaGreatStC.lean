/- Stats: package math's functions that are met; plain, Zero, Same, told. -/
import Derived.Test.YtidejikolcgojaaGreatStB
import Derived.Laws.Externs
import Derived.Laws.BitsAll
import Derived.Laws.BitsAllLaws
namespace Go.Proofs.YtidejikolcgojaaGreat.St
open Go.RowKit Go.Shelf
open Go.Proofs.YtidejikolcgojaaGreat.Vb Go.Proofs.YtidejikolcgojaaGreat.Ac
attribute [local go_sem] run_fadd run_fsub run_fmul run_fdiv run_store_float

theorem run_bits (x : Nat) (w : World) : (callFunc 53 #[.float .f64 x]).run Tryz.prog w = .ok (.value (.int .u64 x)) w :=
  (run_callFunc_extern (e := Extern.MathFloatBits.float64bits) Tryz.func53 (by kernel_rfl) (by kernel_rfl) (by kernel_rfl) (by kernel_rfl) _ w).trans rfl
theorem run_frombits (x : Int) (w : World) : (callFunc 13 #[.int .u64 x]).run Tryz.prog w = .ok (.value (.float .f64 x.toNat)) w :=
  (run_callFunc_extern (e := Extern.MathFloatBits.float64frombits) Tryz.func13 (by kernel_rfl) (by kernel_rfl) (by kernel_rfl) (by kernel_rfl) _ w).trans rfl
def sqV (x : Nat) (w : World) : Nat := (Ieee.double.sqrt x).getD (Question.cut (.nanBits .f64 x x) (w.tape w.drawn (.nanBits .f64 x x)))
def sqN (x : Nat) : Nat := if (Ieee.double.sqrt x).isSome then 0 else 1
theorem run_sqrt (x : Nat) (w : World) : (callFunc 79 #[.float .f64 x]).run Tryz.prog w = .ok (.value (.float .f64 (sqV x w))) (w.drewN (sqN x)) := by
  refine (run_callFunc_extern (e := Extern.MathSqrt.sqrt) Tryz.func79 (by kernel_rfl) (by kernel_rfl) (by kernel_rfl) (by kernel_rfl) _ w).trans ?_
  show (Sem.run Tryz.prog (Extern.MathSqrt.sqrt #[.float .f64 x]) w).andThen _ = _
  have e : Extern.MathSqrt.sqrt #[.float .f64 x] = (match Ieee.double.sqrt x with | some r => pure (.float .f64 r) | none => do pure (.float .f64 (← choose (.nanBits .f64 x x))) : Sem Value) := rfl
  rw [e]
  unfold sqV sqN
  cases Ieee.double.sqrt x with
  | some r => rfl
  | none => rfl
def floorB (x : Nat) : Nat := Ieee.double.write ((Ieee.double.read x).integral .down)
theorem run_floor {x : Nat} (h : isN x = false) (w : World) : (callFunc 81 #[.float .f64 x]).run Tryz.prog w = .ok (.value (.float .f64 (floorB x))) w := by
  refine (run_callFunc_extern (e := Extern.MathFloor.toIntegral "math.archFloor" .down) Tryz.func81 (by kernel_rfl) (by kernel_rfl) (by kernel_rfl) (by kernel_rfl) _ w).trans ?_
  show (Sem.run Tryz.prog (Extern.MathFloor.toIntegral "math.archFloor" .down #[.float .f64 x]) w).andThen _ = _
  rw [← read_nan] at h
  have e : Extern.MathFloor.toIntegral "math.archFloor" .down #[.float .f64 x] = (match Ieee.double.read x with
    | .nan s t =>
      if Ieee.double.quiet t = t then pure (.float .f64 x) else do
      let kept ← choose (.extern "math.Floor,Ceil,Trunc,RoundToEven.signallingNaN kept" 2)
      pure (.float .f64 (if kept == 1 then x else Ieee.double.write (.nan s (Ieee.double.quiet t))))
    | d => pure (.float .f64 (Ieee.double.write (d.integral .down))) : Sem Value) := rfl
  rw [e]
  unfold floorB
  cases hd : Ieee.double.read x with
  | nan s t => rw [hd] at h; cases h
  | infinity s => rfl
  | number s m i => rfl

theorem abs_bits (x : Nat) (h : x < 18446744073709551616) : (bits .andNot .u64 (x : Int) 9223372036854775808).toNat = x % 9223372036854775808 := by
  have := u64_andNot_nat x 9223372036854775808 h (by omega)
  rw [show ((9223372036854775808 : Nat) : Int) = 9223372036854775808 from rfl] at this
  rw [this, Int.toNat_natCast]
  have e : (18446744073709551615 - 9223372036854775808 : Nat) = 2 ^ 63 - 1 := by decide
  rw [e, Nat.and_two_pow_sub_one_eq_mod]
set_option maxRecDepth 100000 in
theorem abs_any {x : Nat} {f : Fl} (h : IsF x f) (w : World) : Calls Tryz.prog 78 #[.float .f64 x] w fun e w' => ∃ r, e = .returned (.float .f64 r) ∧ IsF r (fabs f) ∧ w' = w := by
  obtain ⟨hx, rfl⟩ := h
  have r1 := run_bits
  have r2 := run_frombits
  have hx' : x < 18446744073709551616 := hx
  go_enter Tryz.func78, Tryz.ntmps78
  go_wp2_with fail
  rw [abs_bits x hx']
  go_ret
  exact ⟨_, rfl, ⟨by unfold bits64; omega, cn_abs⟩, rfl⟩
theorem isNaN_any (x : Nat) (w : World) : Calls Tryz.prog 47 #[.float .f64 x] w fun e w' => e = .returned (.bool (isN x)) ∧ w' = w := by
  have HN := Lib.hid (neq_self x)
  go_enter Tryz.func47, Tryz.ntmps47
  go_wp2_with fail
  go_ret
  exact ⟨by rw [← HN.out]; rfl, rfl⟩
theorem nan_any (w : World) : Calls Tryz.prog 42 #[] w fun e w' => e = .returned (.float .f64 9221120237041090561) ∧ w' = w := by
  have r2 := run_frombits
  go_enter Tryz.func42, Tryz.ntmps42
  go_wp2_with fail
  go_ret
  exact ⟨rfl, rfl⟩
def fsqrt : Fl → Fl
  | some x => Ieee.double.sqrt x
  | none => none
theorem sqrt_nan {x : Nat} (h : isN x = true) : Ieee.double.sqrt x = none := by
  rw [← read_nan] at h
  obtain ⟨s, t, h⟩ := isNaN_nan h
  show ((Ieee.double.read x).root _).map Ieee.double.write = none
  rw [h]
  rfl
theorem isF_sqrt {x : Nat} {f : Fl} (h : IsF x f) (w : World) : IsF (sqV x w) (fsqrt f) := by
  obtain ⟨hx, rfl⟩ := h
  have e : (2 : Nat) ^ Ieee.double.width = bits64 := by decide +kernel
  have hc : fsqrt (cn x) = Ieee.double.sqrt x := by
    unfold cn
    cases hn : isN x with
    | true => exact (sqrt_nan hn).symm
    | false => rfl
  rw [hc]
  unfold sqV
  cases h : Ieee.double.sqrt x with
  | some r =>
    refine ⟨by rw [← e]; exact Ieee.Format.sqrt_lt _ h, ?_⟩
    unfold cn
    rw [Option.getD_some, map_num (fun c hc => root_num hc) h]
    rfl
  | none =>
    obtain ⟨h1, h2⟩ := nan_cut x x (w.tape w.drawn (.nanBits .f64 x x))
    exact ⟨h1, by unfold cn; rw [Option.getD_none, h2]; rfl⟩
theorem sqrt_any {x : Nat} {f : Fl} (h : IsF x f) (w : World) : Calls Tryz.prog 54 #[.float .f64 x] w fun e w' => ∃ r n, e = .returned (.float .f64 r) ∧ IsF r (fsqrt f) ∧ w' = w.drewN n := by
  have H := Lib.hid (isF_sqrt h w)
  have r1 := run_sqrt x
  clear h
  go_enter Tryz.func54, Tryz.ntmps54
  go_wp2_with fail
  go_ret
  exact ⟨_, _, rfl, H.out, rfl⟩
theorem floor_num {x : Nat} (h : isN x = false) : floorB x < bits64 ∧ isN (floorB x) = false := by
  refine ⟨f64_lt _, write_num ?_⟩
  rw [← read_nan] at h
  cases hd : Ieee.double.read x with
  | nan s t => rw [hd] at h; cases h
  | infinity s => rfl
  | number s m i => rfl
theorem floor_any {x : Nat} (h : isN x = false) (w : World) : Calls Tryz.prog 57 #[.float .f64 x] w fun e w' => e = .returned (.float .f64 (floorB x)) ∧ w' = w := by
  have r1 := fun w => run_floor h w
  clear h
  go_enter Tryz.func57, Tryz.ntmps57
  go_wp2_with fail
  go_ret
  exact ⟨rfl, rfl⟩
theorem signbit_any {x : Nat} (h : x < bits64) (w : World) : Calls Tryz.prog 92 #[.float .f64 x] w fun e w' => e = .returned (.bool (decide (9223372036854775808 ≤ x))) ∧ w' = w := by
  have r1 := run_bits
  have hx : x < 18446744073709551616 := h
  go_enter Tryz.func92, Tryz.ntmps92
  go_wp2_with fail
  go_ret
  refine ⟨?_, rfl⟩
  have e : decide (wrap64 (x : Int) < 0) = decide (9223372036854775808 ≤ x) := by
    rw [decide_eq_decide]
    unfold wrap64
    omega
  rw [← e]
  rfl

/-- nought without a sign -/
def fzero (f : Fl) : Fl := if ford f (some 0) == some .eq then some 0 else f
theorem zero_isF : IsF 0 (some 0) := ⟨by decide, by decide⟩
theorem plain_any {x : Nat} {f : Fl} (h : IsF x f) (w : World) : Calls Tryz.prog 48 #[.float .f64 x] w fun e w' => ∃ r, e = .returned (.float .f64 r) ∧ IsF r (fzero f) ∧ w' = w := by
  have ho := order_isF h zero_isF
  have H := Lib.hid h
  have HZ := Lib.hid (show fzero f = if ford f (some 0) == some .eq then some 0 else f from rfl)
  by_cases hc : (ford f (some 0) == some .eq) = true
  · have d1 : (FloatKind.f64.format.order x 0 == some .eq) = true := by rw [ho]; exact hc
    have HC := Lib.hid hc
    clear h ho hc
    go_enter Tryz.func48, Tryz.ntmps48
    go_wp2_with fail
    go_ret
    exact ⟨_, rfl, by rw [HZ.out, if_pos HC.out]; exact zero_isF, rfl⟩
  · have d1 : (FloatKind.f64.format.order x 0 == some .eq) = false := by rw [ho]; simpa using hc
    have HC := Lib.hid hc
    clear h ho hc
    go_enter Tryz.func48, Tryz.ntmps48
    go_wp2_with fail
    go_ret
    exact ⟨_, rfl, by rw [HZ.out, if_neg HC.out]; exact H.out, rfl⟩
theorem zero_any {x : Nat} {f : Fl} (h : IsF x f) (w : World) : Calls Tryz.prog 52 #[.float .f64 x] w fun e w' => ∃ r, e = .returned (.float .f64 r) ∧ IsF r (fzero f) ∧ w' = w := by
  have ho := order_isF h zero_isF
  have H := Lib.hid h
  have HZ := Lib.hid (show fzero f = if ford f (some 0) == some .eq then some 0 else f from rfl)
  by_cases hc : (ford f (some 0) == some .eq) = true
  · have d1 : (FloatKind.f64.format.order x 0 == some .eq) = true := by rw [ho]; exact hc
    have HC := Lib.hid hc
    clear h ho hc
    go_enter Tryz.func52, Tryz.ntmps52
    go_wp2_with fail
    go_ret
    exact ⟨_, rfl, by rw [HZ.out, if_pos HC.out]; exact zero_isF, rfl⟩
  · have d1 : (FloatKind.f64.format.order x 0 == some .eq) = false := by rw [ho]; simpa using hc
    have HC := Lib.hid hc
    clear h ho hc
    go_enter Tryz.func52, Tryz.ntmps52
    go_wp2_with fail
    go_ret
    exact ⟨_, rfl, by rw [HZ.out, if_neg HC.out]; exact H.out, rfl⟩

def fsame : Fl → Fl → Bool
  | none, none => true
  | some x, some y => x == y
  | _, _ => false
theorem fsame_self (f : Fl) : fsame f f = true := by cases f <;> simp [fsame]
theorem same_any {x y : Nat} {f g : Fl} (hx : IsF x f) (hy : IsF y g) (w : World) : Calls Tryz.prog 11 #[.float .f64 x, .float .f64 y] w fun e w' => e = .returned (.bool (fsame f g)) ∧ w' = w := by
  have r1 := run_bits
  have hx1 := neq_self x
  have hy1 := neq_self y
  obtain ⟨_, rfl⟩ := hx
  obtain ⟨_, rfl⟩ := hy
  obtain ⟨z, hz⟩ : ∃ z, z = fsame (cn x) (cn y) := ⟨_, rfl⟩
  rw [← hz]
  have hb : ((x : Int) == (y : Int)) = (x == y) := natBeq x y
  cases h1 : isN x with
  | true =>
    have d1 : (FloatKind.f64.format.order x x != some .eq) = true := hx1.trans h1
    cases h2 : isN y with
    | true =>
      have d2 : (FloatKind.f64.format.order y y != some .eq) = true := hy1.trans h2
      have HZ := Lib.hid (show z = true by rw [hz]; unfold cn; rw [h1, h2]; rfl)
      clear hx1 hy1 hz hb h1 h2
      go_enter Tryz.func11, Tryz.ntmps11
      go_wp2_with fail
      go_ret
      exact ⟨by rw [HZ.out]; rfl, rfl⟩
    | false =>
      have d2 : (FloatKind.f64.format.order y y != some .eq) = false := hy1.trans h2
      have HZ := Lib.hid (show z = false by rw [hz]; unfold cn; rw [h1, h2]; rfl)
      clear hx1 hy1 hz hb h1 h2
      go_enter Tryz.func11, Tryz.ntmps11
      go_wp2_with fail
      go_ret
      exact ⟨by rw [HZ.out]; rfl, rfl⟩
  | false =>
    have d1 : (FloatKind.f64.format.order x x != some .eq) = false := hx1.trans h1
    cases h2 : isN y with
    | true =>
      have d2 : (FloatKind.f64.format.order y y != some .eq) = true := hy1.trans h2
      have HZ := Lib.hid (show z = false by rw [hz]; unfold cn; rw [h1, h2]; rfl)
      clear hx1 hy1 hz hb h1 h2
      go_enter Tryz.func11, Tryz.ntmps11
      go_wp2_with fail
      go_ret
      exact ⟨by rw [HZ.out]; rfl, rfl⟩
    | false =>
      have d2 : (FloatKind.f64.format.order y y != some .eq) = false := hy1.trans h2
      have HZ := Lib.hid (show z = (x == y) by rw [hz]; unfold cn; rw [h1, h2]; rfl)
      clear hx1 hy1 hz h1 h2
      have HB := Lib.hid hb
      clear hb
      go_enter Tryz.func11, Tryz.ntmps11
      go_wp2_with fail
      go_ret
      exact ⟨by rw [HZ.out, ← HB.out]; rfl, rfl⟩
theorem told_any {x y : Nat} {f g : Fl} (hx : IsF x f) (hy : IsF y g) (ok : Bool) (w : World) : Calls Tryz.prog 19 #[.float .f64 x, .float .f64 y, .bool ok] w fun e w' => e = .returned (.bool (if ok then fsame f g else f.isNone)) ∧ w' = w := by
  have hx1 := neq_self x
  have hN := cn_isNone x
  rw [hx.2] at hN
  have HX := Lib.hid hx
  have HY := Lib.hid hy
  cases ok with
  | false =>
    have HD := Lib.hid (show f.isNone = (FloatKind.f64.format.order x x != some .eq) from hN.trans hx1.symm)
    clear hx hy hx1 hN
    go_enter Tryz.func19, Tryz.ntmps19
    go_wp2_with fail
    go_ret
    exact ⟨by rw [HD.out]; rfl, rfl⟩
  | true =>
    clear hx hy hx1 hN
    go_enter Tryz.func19, Tryz.ntmps19
    go_wp2_with fail
    refine (same_any HX.out HY.out _).mono ?_
    rintro e w' ⟨rfl, rfl⟩
    go_wp2_with fail
    go_ret
    exact ⟨rfl, rfl⟩

/-- does x stand ahead of y? -/
def fless (x y : Nat) : Bool := (Ieee.double.order x y == some .lt) || (Ieee.double.order x y == some .eq && decide (9223372036854775808 ≤ x) && !decide (9223372036854775808 ≤ y))
set_option maxRecDepth 100000 in
theorem less_any {x y : Nat} (hx : x < bits64) (hy : y < bits64) (w : World) : Calls Tryz.prog 80 #[.float .f64 x, .float .f64 y] w fun e w' => e = .returned (.bool (fless x y)) ∧ w' = w := by
  obtain ⟨z, hz⟩ : ∃ z, z = fless x y := ⟨_, rfl⟩
  rw [← hz]
  have hz2 : z = ((Ieee.double.order x y == some .lt) || (Ieee.double.order x y == some .eq && decide (9223372036854775808 ≤ x) && !decide (9223372036854775808 ≤ y))) := hz
  have HX := Lib.hid hx
  have HY := Lib.hid hy
  clear hz hx hy
  by_cases h1 : (Ieee.double.order x y == some .lt) = true
  · have d1 : (FloatKind.f64.format.order x y == some .lt) = true := h1
    have HZ := Lib.hid (show z = true by rw [hz2, h1]; rfl)
    clear hz2 h1
    go_enter Tryz.func80, Tryz.ntmps80
    go_wp2_with fail
    go_ret
    exact ⟨by rw [HZ.out]; rfl, rfl⟩
  · have h1' : (Ieee.double.order x y == some .lt) = false := by simpa using h1
    have d1 : (FloatKind.f64.format.order x y == some .lt) = false := h1'
    rw [h1', Bool.false_or] at hz2
    clear h1 h1'
    by_cases h2 : (Ieee.double.order x y == some .eq) = true
    · have d2 : (FloatKind.f64.format.order x y == some .eq) = true := h2
      rw [h2, Bool.true_and] at hz2
      clear h2
      obtain ⟨a, ha⟩ : ∃ a, a = decide (9223372036854775808 ≤ x) := ⟨_, rfl⟩
      obtain ⟨b, hb⟩ : ∃ a, a = decide (9223372036854775808 ≤ y) := ⟨_, rfl⟩
      rw [← ha, ← hb] at hz2
      have HA := Lib.hid ha
      have HB := Lib.hid hb
      clear ha hb
      cases a with
      | true =>
        have HZ := Lib.hid (show z = !b by rw [hz2]; rfl)
        clear hz2
        go_enter Tryz.func80, Tryz.ntmps80
        go_wp2_with (first | (refine (signbit_any HX.out _).mono ?_; rintro e w' ⟨rfl, rfl⟩; rw [← HA.out]) | (refine (signbit_any HY.out _).mono ?_; rintro e w' ⟨rfl, rfl⟩; rw [← HB.out]))
        go_ret
        exact ⟨by rw [HZ.out]; rfl, rfl⟩
      | false =>
        have HZ := Lib.hid (show z = false by rw [hz2]; rfl)
        clear hz2
        go_enter Tryz.func80, Tryz.ntmps80
        go_wp2_with (first | (refine (signbit_any HX.out _).mono ?_; rintro e w' ⟨rfl, rfl⟩; rw [← HA.out]) | (refine (signbit_any HY.out _).mono ?_; rintro e w' ⟨rfl, rfl⟩; rw [← HB.out]))
        go_ret
        exact ⟨by rw [HZ.out]; rfl, rfl⟩
    · have h2' : (Ieee.double.order x y == some .eq) = false := by simpa using h2
      have d2 : (FloatKind.f64.format.order x y == some .eq) = false := h2'
      have HZ := Lib.hid (show z = false by rw [hz2, h2']; rfl)
      clear hz2 h2 h2'
      go_enter Tryz.func80, Tryz.ntmps80
      go_wp2_with fail
      go_ret
      exact ⟨by rw [HZ.out]; rfl, rfl⟩
end Go.Proofs.YtidejikolcgojaaGreat.St

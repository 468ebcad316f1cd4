/- Account: may, what is done by function values. -/
import Derived.Test.YtibhmgeckghoeaaAccF
namespace Go.Proofs.Ytibhmgeckghoeaa.Ac
open Go.RowKit Go.Shelf Go.Maps
open Go.Proofs.Ytibhmgeckghoeaa.Vb
attribute [local go_sem] Oper.semAt_some

set_option maxHeartbeats 1000000 in
theorem may_dead {v : Value} {f : Fm} {w : World} (h : AtP w v f) (hf : f.there = false) (right : Bool) (fm fd : Value) (x : Int) :
    Calls Try.prog 34 #[v, .bool right, fm, .int .i64 x, fd] w fun e w' => e = .returned (.int .i64 1) ∧ w' = w := by
  have HV := Lib.hid h
  have HF := Lib.hid hf
  clear h hf
  go_enter Try.func34, Try.ntmps34
  go_wp2_with fail
  refine (there_any HV.out).mono ?_
  rintro e w3 ⟨rfl, rfl⟩
  rw [HF.out]
  go_wp2_with fail
  go_ret
  exact ⟨rfl, rfl⟩

set_option maxHeartbeats 1000000 in
theorem may_live {b m n : Nat} {a : Acc} {w : World} (h : AccAt w b m n a) (right : Bool) (gm gd : Nat) (am bm bd : Array Value) (x mv : Int)
    (egm : ∀ args W, (callFunc gm args).run Try.prog W = .ok (.enter gm args) W) (egd : ∀ args W, (callFunc gd args).run Try.prog W = .ok (.enter gd args) W)
    (hm : Calls Try.prog gm (am ++ bm) w fun e W' => e = .returned (.int .i64 mv) ∧ Below w.heap.size w W') (Q : World → Prop)
    (hd : right = true → coin x → x ≤ mv → ∀ W, Below w.heap.size w W → Calls Try.prog gd bd W fun e W' => e = .returned (.tuple #[]) ∧ Q W') :
    Calls Try.prog 34 #[.pointer (some ⟨b, 0, none⟩), .bool right, .func (.func gm) am bm, .int .i64 x, .func (.func gd) #[] bd] w fun e w' =>
      (right = false ∨ ¬ coin x) ∧ e = .returned (.int .i64 2) ∧ w' = w ∨ right = true ∧ coin x ∧ mv < x ∧ e = .returned (.int .i64 8) ∧ Below w.heap.size w w' ∨ right = true ∧ coin x ∧ x ≤ mv ∧ e = .returned (.int .i64 0) ∧ Q w' := by
  have HV := Lib.hid (show AtP w (.pointer (some ⟨b, 0, none⟩)) (.live a) from ⟨b, m, n, rfl, h⟩)
  have HM := Lib.hid hm
  have HD := Lib.hid hd
  clear h hm hd
  have HT := Lib.hid (show (Fm.live a).there = true from rfl)
  cases right with
  | false =>
    go_enter Try.func34, Try.ntmps34
    go_wp2_with fail
    refine (there_any HV.out).mono ?_
    rintro e w3 ⟨rfl, rfl⟩
    rw [HT.out]
    go_wp2_with fail
    go_ret
    exact .inl ⟨.inl trivial, rfl, rfl⟩
  | true =>
    by_cases hc : coin x
    · have HC := Lib.hid hc
      have HDC := Lib.hid (decide_eq_true hc)
      clear hc
      go_enter Try.func34, Try.ntmps34
      go_wp2_with fail
      refine (there_any HV.out).mono ?_
      rintro e w3 ⟨rfl, rfl⟩
      rw [HT.out]
      go_wp2_with fail
      refine (coins_any x w3).mono ?_
      rintro e w4 ⟨rfl, rfl⟩
      rw [HDC.out]
      go_wp2_with fail
      refine HM.out.mono ?_
      rintro e w5 ⟨rfl, hb5⟩
      have HB := Lib.hid hb5
      clear hb5
      by_cases hlt : mv < x
      · go_wp2_with fail
        go_ret
        exact .inr (.inl ⟨trivial, HC.out, hlt, rfl, HB.out⟩)
      · have HLE := Lib.hid (show x ≤ mv by omega)
        go_wp2_with fail
        refine (HD.out trivial HC.out HLE.out w5 HB.out).mono ?_
        rintro e w6 ⟨rfl, hq⟩
        have HQ := Lib.hid hq
        clear hq
        go_wp2_with fail
        go_ret
        exact .inr (.inr ⟨trivial, HC.out, HLE.out, rfl, HQ.out⟩)
    · have HC := Lib.hid hc
      have HDC := Lib.hid (decide_eq_false hc)
      clear hc
      go_enter Try.func34, Try.ntmps34
      go_wp2_with fail
      refine (there_any HV.out).mono ?_
      rintro e w3 ⟨rfl, rfl⟩
      rw [HT.out]
      go_wp2_with fail
      refine (coins_any x w3).mono ?_
      rintro e w4 ⟨rfl, rfl⟩
      rw [HDC.out]
      go_wp2_with fail
      go_ret
      exact .inl ⟨.inr HC.out, rfl, rfl⟩
end Go.Proofs.Ytibhmgeckghoeaa.Ac

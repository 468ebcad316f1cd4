/- Once: a keeper at work. -/
import Derived.Test.YthkgemaajbjgaaaOnK
import Derived.Shelf.Abstract
namespace Go.Proofs.Ythkgemaajbjgaaa.On
open Go.RowKit Go.Shelf
open Go.Proofs (encStr)
open Go.Proofs.Ythkgemaajbjgaaa.Vb Go.Proofs.Ythkgemaajbjgaaa.Ac

theorem job_enters (args : Array Value) (w : World) : (callFunc 6 args).run Try.prog w = .ok (.enter 6 args) w := enters_of Try.func6 (by kernel_rfl) rfl args w
theorem blk_on (g : Nat) (t : TypeId) (cs : Array Value) : OnBlock (fun A => Blk A g t cs) g := ⟨fun _ h => h.lt, fun _ _ h hb => hb.trans h⟩
theorem job_ok (g : Nat) (v : Int) : JobOk 6 #[.pointer (some ⟨g, 0, none⟩)] #[] v g (fun A => Blk A g 24 #[.int .i64 v, .int .i64 0]) (fun A => Blk A g 24 #[.int .i64 v, .int .i64 1]) := by
  refine ⟨blk_on _ _ _, blk_on _ _ _, fun A hA => ?_, job_enters⟩
  refine (show Calls Try.prog 6 #[.pointer (some ⟨g, 0, none⟩)] A _ from jobDo_any hA (by omega)).mono ?_
  rintro e B ⟨rfl, rfl⟩
  exact ⟨rfl, Chg.set A ⟨g, 1, none⟩ _, hA.set_ 1 _⟩
abbrev keyA : ByteArray := { data := #[97] }
abbrev keyB : ByteArray := { data := #[98] }
def kfo (e : MapEntry) : List UInt8 := match e.key with | .string s => s.data.toList | _ => []
theorem at_0 (key : ByteArray) : at1 #[] key none := rfl
theorem at_A (v : Value) : at1 (#[].push ⟨.string keyA, v, 0⟩) keyA (some (0, v)) := by
  unfold at1
  kernel_rfl
theorem at_B (v : Value) : at1 (#[].push ⟨.string keyA, v, 0⟩) keyB none := by
  unfold at1
  kernel_rfl
set_option maxRecDepth 100000 in
set_option maxHeartbeats 3200000 in
theorem works_any (W : World) : Calls Try.prog 12 #[] W fun e W' => e = .returned (.bool true) ∧ Below W.heap.size W W' := by
  have hmf : ∀ (fn : Fn) (first cap : Array Value) (w : World), (Instr.makeFunc fn first cap).run Try.prog w = .ok (.func fn first cap) w := fun _ _ _ _ => rfl
  have hnot : ∀ (x : Bool) (w : World), (Op.unary .not (.bool x)).run Try.prog w = .ok (.bool (!x)) w := fun _ _ => rfl
  go_enter Try.func12, Try.ntmps12
  go_wp2_with fail
  refine (new_any W).mono ?_
  rintro e A ⟨rfl, hKA, hbA⟩
  obtain ⟨k, hk⟩ : ∃ k, k = W.heap.size + 1 := ⟨_, rfl⟩
  obtain ⟨m, hm⟩ : ∃ m, m = W.heap.size := ⟨_, rfl⟩
  rw [← hk, ← hm] at hKA
  rw [← hk]
  have hkW := Lib.hid (show W.heap.size ≤ k ∧ W.heap.size ≤ m by omega)
  have HKA := Lib.hid hKA
  have HBA := Lib.hid hbA
  clear hk hm hKA hbA
  obtain ⟨U, hU⟩ : ∃ U, U = (A.alloc (.cells #[.int .i64 5, .int .i64 0] 24)).alloc (.cells #[.int .i64 7, .int .i64 0] 24) := ⟨_, rfl⟩
  have HJ1 := Lib.hid (show Blk U A.heap.size 24 #[.int .i64 5, .int .i64 0] by rw [hU]; exact (Blk.new A _ _).alloc _)
  have HJ2 := Lib.hid (show Blk U (A.heap.size + 1) 24 #[.int .i64 7, .int .i64 0] by rw [hU]; exact Blk.new' _ _ (by simp))
  have hbU : Below A.heap.size A U := by rw [hU]; exact ((Below.refl _ _).alloc (Nat.le_refl _) _).alloc (by simp) _
  have HSU := Lib.hid (show U.heap.size = A.heap.size + 2 by rw [hU]; simp)
  have HKU := Lib.hid (HKA.out.grow hbU)
  have HBU := Lib.hid hbU
  have HU := Lib.hid hU
  clear hbU hU
  go_wp2_with fail
  rw [← HU.out]
  refine (keepDo_new (W := U) (v' := 5) (br' := false) (jb := A.heap.size) (fun B => Blk B A.heap.size 24 #[.int .i64 5, .int .i64 1]) HKU.out (at_0 keyA) (by have := HKA.out.lt; omega) (by have := HKA.out.mlt; omega) (by omega) (fun B hcB hTB => ?_)).mono ?_
  · have h1 := HKA.out.lt
    have h2 := HKA.out.mlt
    have h3 := HSU.out
    refine (taskdo_ok hTB (job_ok A.heap.size 5) (HJ1.out.chg hcB (by show ¬ (A.heap.size = k ∨ A.heap.size = m); omega)) (by omega)).mono ?_
    rintro e C ⟨rfl, hT, hI, hc⟩
    exact ⟨rfl, hT, hc, hI⟩
  rintro e B ⟨he, hKB, hTB, hcB, B', hB', hcB'⟩
  have he' : e = .returned (.tuple #[.int .i64 5, .bool true, .int .i64 0]) := he
  subst he'
  clear he
  obtain ⟨ta, hta⟩ : ∃ ta, ta = U.heap.size := ⟨_, rfl⟩
  rw [← hta] at hKB hTB
  have g1 := HKA.out.lt
  have g2 := HKA.out.mlt
  have g3 := HSU.out
  have HG := Lib.hid (show k < A.heap.size ∧ m < A.heap.size ∧ U.heap.size = A.heap.size + 2 ∧ ta = U.heap.size from ⟨g1, g2, g3, hta⟩)
  have HJB1 := Lib.hid (hB'.chg hcB' (by show ¬ A.heap.size = k; omega))
  have HJB2 := Lib.hid (HJ2.out.chg hcB (by show ¬ (A.heap.size + 1 = k ∨ A.heap.size + 1 = m ∨ A.heap.size + 1 = A.heap.size); omega))
  have HKB := Lib.hid hKB
  have HTB := Lib.hid hTB
  have HCB := Lib.hid hcB
  clear hKB hTB hcB hB' hcB' hta g1 g2 g3
  go_wp2_with fail
  refine (keepDo_old HKB.out (at_A _) HTB.out (by have := HG.out; omega)).mono ?_
  rintro e C ⟨he, hKC, hcC⟩
  have he' : e = .returned (.tuple #[.int .i64 5, .bool false, .int .i64 0]) := he
  subst he'
  clear he
  have HKC := Lib.hid hKC
  have HCC := Lib.hid hcC
  have HTC := Lib.hid (HTB.out.chg hcC (by have := HG.out; show ¬ ta = k; omega))
  have HJC1 := Lib.hid (HJB1.out.chg hcC (by have := HG.out; show ¬ A.heap.size = k; omega))
  have HJC2 := Lib.hid (HJB2.out.chg hcC (by have := HG.out; show ¬ A.heap.size + 1 = k; omega))
  clear hKC hcC
  go_wp2_with fail
  refine (wrong_any C).mono ?_
  rintro e C' ⟨rfl, hC'⟩
  rw [hC']
  clear hC'
  go_wp2_with fail
  refine (keepDo_new (W := C) (v' := 0) (br' := true) (jb := C.heap.size) (fun _ => True) HKC.out (at_B _) (by have := HKC.out.lt; omega) (by have := HKC.out.mlt; omega) (by omega) (fun B hcB hTB => ?_)).mono ?_
  · refine (taskdo_bad hTB).mono ?_
    rintro e E ⟨rfl, hT, hc⟩
    exact ⟨rfl, hT, hc.mono fun _ _ e => .inl e, trivial⟩
  rintro e D ⟨he, hKD, hTD, hcD, _⟩
  have he' : e = .returned (.tuple #[.int .i64 0, .bool true, .int .i64 150]) := he
  subst he'
  clear he
  have f1 := HG.out
  have f2 := HJC1.out.lt
  have f3 := HJC2.out.lt
  have f4 := HTC.out.lt
  have hJ1 := HJC1.out.chg hcD (by show ¬ (A.heap.size = k ∨ A.heap.size = m ∨ A.heap.size = C.heap.size); omega)
  have hJ2 := HJC2.out.chg hcD (by show ¬ (A.heap.size + 1 = k ∨ A.heap.size + 1 = m ∨ A.heap.size + 1 = C.heap.size); omega)
  have y1 : D.cell? ⟨A.heap.size, 1, none⟩ = some (.int .i64 1) := hJ1.cell 1
  have y2 : D.cell? ⟨A.heap.size + 1, 1, none⟩ = some (.int .i64 0) := hJ2.cell 1
  have HTD1 := Lib.hid (HTC.out.chg hcD (by show ¬ (ta = k ∨ ta = m ∨ ta = C.heap.size); omega))
  have HTD2 := Lib.hid hTD
  have HKD := Lib.hid hKD
  have hkc := HKC.out.lt
  have HNE := Lib.hid (show C.heap.size ≠ k ∧ ta ≠ k by omega)
  have HBD : Below W.heap.size W D := by
    have hk := hkW.out
    have h1 : Below W.heap.size U B := HCB.out.below (by have := HBA.out.size; omega) (by rintro x hx (e | e | e) <;> (have := HBA.out.size; omega))
    have h2 : Below W.heap.size B C := HCC.out.below (by have := HBA.out.size; have := HCB.out.size; omega) (by rintro x hx e; omega)
    have h3 : Below W.heap.size C D := hcD.below (by have := HBA.out.size; omega) (by rintro x hx (e | e | e) <;> (have := HBA.out.size; omega))
    exact (((HBA.out.trans (HBU.out.mono HBA.out.size)).trans h1).trans h2).trans h3
  have HBD := Lib.hid HBD
  clear hKD hTD hcD f1 f2 f3 f4 hJ1 hJ2 hkc
  go_wp2_with fail
  refine (num_any 0 D).mono ?_
  rintro e D' ⟨rfl, hD⟩
  rw [hD]
  clear hD
  go_wp2_with fail
  refine (num_any 0 D).mono ?_
  rintro e D' ⟨rfl, hD⟩
  rw [hD]
  clear hD
  go_wp2_with fail
  refine (num_any 150 D).mono ?_
  rintro e D' ⟨rfl, hD⟩
  rw [hD]
  clear hD
  go_wp2_with fail
  refine (runs_any HKD.out).mono ?_
  rintro e D' ⟨rfl, hD⟩
  rw [hD]
  clear hD
  go_wp2_with fail
  refine (keys_any kfo (fun _ => true) HKD.out (by simp) (by simp) ?_ (by simp)).mono ?_
  · intro e he
    have h1 := HTD1.out.cells.2.2.1
    have h2 := HTD2.out.cells.2.2.1
    have h3 := HNE.out
    simp at he
    rcases he with rfl | rfl
    · exact ⟨by simp [kfo, encStr], ta, 1, rfl, h3.2, h1, rfl⟩
    · exact ⟨by simp [kfo, encStr], C.heap.size, 1, rfl, h3.1, h2, rfl⟩
  rintro e E ⟨v, n, rfl, hn, hrow, hKE, hcE⟩
  have hn2 : n = 2 := by rw [hn]; simp
  subst hn2
  obtain ⟨ge, ce, rfl, _, _⟩ := World.ownsRow.form hrow (by omega)
  have hk := hkW.out
  have HBE := Lib.hid (HBD.out.trans (hcE.below HBD.out.size (by rintro x hx e; omega)))
  clear hn hrow hKE hcE hk
  go_wp2_with fail
  go_ret
  exact ⟨rfl, HBE.out⟩
end Go.Proofs.Ythkgemaajbjgaaa.On

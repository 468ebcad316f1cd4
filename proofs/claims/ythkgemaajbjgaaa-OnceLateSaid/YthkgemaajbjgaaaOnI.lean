/- Once: a keeper's Do. -/
import Derived.Test.YthkgemaajbjgaaaOnH
namespace Go.Proofs.Ythkgemaajbjgaaa.On
open Go.RowKit
open Go.Proofs.Ythkgemaajbjgaaa.Vb Go.Proofs.Ythkgemaajbjgaaa.Ac

set_option maxRecDepth 100000 in
set_option maxHeartbeats 3200000 in
/-- the key is new -/
theorem keepDo_new {W : World} {k m : Nat} {r v' : Int} {br' : Bool} {es : Array MapEntry} {clock jf jb : Nat} {fi ca : Array Value} {key : ByteArray} (R : World → Prop) (hK : KeepAt W k m 0 r es clock) (hf : at1 es key none) (nk : jb ≠ k) (nm : jb ≠ m)
    (hr : -9223372036854775808 ≤ r + 1 ∧ r + 1 ≤ 9223372036854775807)
    (hdo : ∀ A, Chg (fun x => x = k ∨ x = m) W A → TaskAt A W.heap.size 0 0 0 0 false none → Calls Try.prog 23 #[.pointer (some ⟨W.heap.size, 0, none⟩), job1 jf fi ca] A fun e B =>
      e = .returned (.bool true) ∧ TaskAt B W.heap.size 1 0 1 v' br' none ∧ Chg (fun x => x = W.heap.size ∨ x = jb) A B ∧ R B) :
    Calls Try.prog 25 #[.pointer (some ⟨k, 0, none⟩), .string key, job1 jf fi ca] W fun e W' => e = .returned (.tuple #[.int .i64 (if br' then 0 else v'), .bool true, .int .i64 (if br' then 150 else 0)]) ∧
      KeepAt W' k m 0 (r + 1) (es.push ⟨.string key, .pointer (some ⟨W.heap.size, 0, none⟩), clock⟩) (clock + 1) ∧ TaskAt W' W.heap.size 1 0 1 v' br' none ∧ Chg (fun x => x = k ∨ x = m ∨ x = jb) W W' ∧ ∃ B, R B ∧ Chg (· = k) B W' := by
  have hj := eq_job jf fi ca
  have hmap : ∀ W, (binOp .eql 76 (.map (some m)) (.map none)).run Try.prog W = .ok (.bool false) W := fun W => by kernel_rfl
  obtain ⟨z1, hz1⟩ : ∃ z : Int, z = if br' then 0 else v' := ⟨_, rfl⟩
  obtain ⟨z2, hz2⟩ : ∃ z : Int, z = if br' then 150 else 0 := ⟨_, rfl⟩
  rw [← hz1, ← hz2]
  have HZ1 := Lib.hid hz1
  have HZ2 := Lib.hid hz2
  have HK := Lib.hid hK
  have HF := Lib.hid hf
  have HR := Lib.hid hr
  have HD := Lib.hid hdo
  have NK := Lib.hid nk
  have NM := Lib.hid nm
  have c2 := hK.cells.2.1
  have kl := Lib.hid hK.lt
  have ml := Lib.hid hK.mlt
  clear hK hf hr hdo nk nm hz1 hz2
  go_enter Try.func25, Try.ntmps25
  go_wp2_with fail
  refine (of_new HK.out HF.out).mono ?_
  rintro e A ⟨rfl, hKA, hTA, hcA⟩
  have HKA := Lib.hid hKA
  have HTA := Lib.hid hTA
  have HCA := Lib.hid hcA
  clear hKA hTA hcA
  go_wp2_with fail
  refine (HD.out A HCA.out HTA.out).mono ?_
  rintro e B ⟨rfl, hTB, hcB, hRB⟩
  have hkl := kl.out
  have hml := ml.out
  have hKB : KeepAt B k m 0 r (es.push ⟨.string key, .pointer (some ⟨W.heap.size, 0, none⟩), clock⟩) (clock + 1) := HKA.out.chg hcB (by rintro (e | e); omega; exact NK.out e.symm) (by rintro (e | e); omega; exact NM.out e.symm)
  have HKB := Lib.hid hKB
  have HTB := Lib.hid hTB
  have HCB := Lib.hid (show Chg (fun x => x = k ∨ x = m ∨ x = jb) W B from (HCA.out.mono fun _ _ e => e.elim .inl fun e => .inr (.inl e)).step hcB fun x hx e => e.elim (fun e => absurd e (by omega)) fun e => .inr (.inr e))
  have HRB := Lib.hid hRB
  clear hTB hcB hRB hKB hkl hml
  go_wp2_with fail
  refine (add64_any k r B HKB.out.cells.2.2 (HKB.out.fro 3) HR.out).mono ?_
  rintro e C ⟨rfl, hC⟩
  have hkl := kl.out
  have hcC : Chg (· = k) B C := by rw [hC]; exact Chg.set B ⟨k, 3, none⟩ _
  have HTC := Lib.hid (HTB.out.chg hcC (by show ¬ W.heap.size = k; omega))
  have HKC := Lib.hid (show KeepAt C k m 0 (r + 1) (es.push ⟨.string key, .pointer (some ⟨W.heap.size, 0, none⟩), clock⟩) (clock + 1) by rw [hC]; exact HKB.out.set3 _)
  have HCC := Lib.hid hcC
  clear hC hcC hkl
  go_wp2_with fail
  refine (told_any HTC.out).mono ?_
  rintro e D ⟨rfl, hD⟩
  rw [hD, ← HZ1.out, ← HZ2.out]
  clear hD
  go_wp2_with fail
  exact bodyPost_ret (v := .tuple #[.int .i64 z1, .bool true, .int .i64 z2]) (by simp [results, Try.results25, go_sem]) rfl ⟨rfl, HKC.out, HTC.out, HCB.out.trans (HCC.out.mono fun _ _ e => .inl e), B, HRB.out, HCC.out⟩
set_option maxRecDepth 100000 in
set_option maxHeartbeats 3200000 in
/-- the key was done -/
theorem keepDo_old {W : World} {k m t : Nat} {r o v : Int} {br : Bool} {es : Array MapEntry} {clock jf i : Nat} {fi ca : Array Value} {key : ByteArray} (hK : KeepAt W k m 0 r es clock) (hf : at1 es key (some (i, .pointer (some ⟨t, 0, none⟩)))) (hT : TaskAt W t 1 0 o v br none) (nt : t ≠ k) :
    Calls Try.prog 25 #[.pointer (some ⟨k, 0, none⟩), .string key, job1 jf fi ca] W fun e W' => e = .returned (.tuple #[.int .i64 (if br then 0 else v), .bool false, .int .i64 (if br then 150 else 0)]) ∧
      KeepAt W' k m 0 r es clock ∧ Chg (· = k) W W' := by
  have hj := eq_job jf fi ca
  have hmap : ∀ W, (binOp .eql 76 (.map (some m)) (.map none)).run Try.prog W = .ok (.bool false) W := fun W => by kernel_rfl
  obtain ⟨z1, hz1⟩ : ∃ z : Int, z = if br then 0 else v := ⟨_, rfl⟩
  obtain ⟨z2, hz2⟩ : ∃ z : Int, z = if br then 150 else 0 := ⟨_, rfl⟩
  rw [← hz1, ← hz2]
  have HZ1 := Lib.hid hz1
  have HZ2 := Lib.hid hz2
  have HK := Lib.hid hK
  have HF := Lib.hid hf
  have HT := Lib.hid hT
  have NT := Lib.hid nt
  have c2 := hK.cells.2.1
  clear hK hf hT nt hz1 hz2
  go_enter Try.func25, Try.ntmps25
  go_wp2_with fail
  refine (of_old HK.out HF.out).mono ?_
  rintro e A ⟨rfl, hKA, hcA⟩
  have HKA := Lib.hid hKA
  have HTA := Lib.hid (HT.out.chg hcA NT.out)
  have HCA := Lib.hid hcA
  clear hKA hcA
  go_wp2_with fail
  refine (taskdo_done HTA.out (by decide)).mono ?_
  rintro e B ⟨rfl, hbB⟩
  have HKB := Lib.hid (HKA.out.grow hbB)
  have HTB := Lib.hid (HTA.out.grow hbB)
  have HCB := Lib.hid (HCA.out.grow hbB)
  clear hbB
  go_wp2_with fail
  refine (told_any HTB.out).mono ?_
  rintro e D ⟨rfl, hD⟩
  rw [hD, ← HZ1.out, ← HZ2.out]
  clear hD
  go_wp2_with fail
  exact bodyPost_ret (v := .tuple #[.int .i64 z1, .bool false, .int .i64 z2]) (by simp [results, Try.results25, go_sem]) rfl ⟨rfl, HKB.out, HCB.out⟩
end Go.Proofs.Ythkgemaajbjgaaa.On

/- Once: a task's do. -/
import Derived.Test.YthkgemaajbjgaaaOnD
namespace Go.Proofs.Ythkgemaajbjgaaa.On
open Go.RowKit
open Go.Proofs.Ythkgemaajbjgaaa.Vb Go.Proofs.Ythkgemaajbjgaaa.Ac

/-- a condition that hangs on one block alone -/
structure OnBlock (I : World → Prop) (jb : Nat) : Prop where
  lt : ∀ A, I A → jb < A.heap.size
  same : ∀ A B, I A → B.heap[jb]? = A.heap[jb]? → I B
theorem OnBlock.chg {I : World → Prop} {jb : Nat} (h : OnBlock I jb) {X : Nat → Prop} {A B : World} (hI : I A) (hc : Chg X A B) (hx : ¬ X jb) : I B := h.same A B hI (hc.block jb (h.lt A hI) hx)
theorem OnBlock.grow {I : World → Prop} {jb : Nat} (h : OnBlock I jb) {A B : World} (hI : I A) (hb : Below A.heap.size A B) : I B := h.same A B hI (hb.block jb (h.lt A hI))
/-- a job: a function value that answers v, turning its own block alone -/
def JobOk (jf : Nat) (fi ca : Array Value) (v : Int) (jb : Nat) (I I' : World → Prop) : Prop :=
  OnBlock I jb ∧ OnBlock I' jb ∧ (∀ A, I A → Calls Try.prog jf (fi ++ ca) A fun e B => e = .returned (.int .i64 v) ∧ Chg (· = jb) A B ∧ I' B) ∧ (∀ args A, (callFunc jf args).run Try.prog A = .ok (.enter jf args) A)
set_option maxRecDepth 100000 in
set_option maxHeartbeats 3200000 in
theorem taskdo_ok {b jf jb : Nat} {fi ca : Array Value} {o v0 v : Int} {br : Bool} {j : Option Value} {W : World} {I I' : World → Prop} (hT : TaskAt W b 0 0 o v0 br j) (hJ : JobOk jf fi ca v jb I I') (hI : I W) (n6 : jb ≠ b) :
    Calls Try.prog 23 #[.pointer (some ⟨b, 0, none⟩), job1 jf fi ca] W fun e W' => e = .returned (.bool true) ∧ TaskAt W' b 1 0 1 v false j ∧ I' W' ∧ Chg (fun k => k = b ∨ k = jb) W W' := by
  obtain ⟨U, hU⟩ : ∃ U, U = ((W.alloc (.cells #[.pointer (some ⟨b, 0, none⟩)] 88)).alloc (.cells #[job1 jf fi ca] 29)).alloc (.cells #[.bool false] 4) := ⟨_, rfl⟩
  have hbU : Below W.heap.size W U := by rw [hU]; exact (((Below.refl _ _).alloc (Nat.le_refl _) _).alloc (by simp) _).alloc (by simp; omega) _
  have hp : Blk U W.heap.size 88 #[.pointer (some ⟨b, 0, none⟩)] := by rw [hU]; exact ((Blk.new W _ _).alloc _).alloc _
  have hj : Blk U (W.heap.size + 1) 29 #[job1 jf fi ca] := by rw [hU]; exact (Blk.new' _ _ (by simp)).alloc _
  have hr : Blk U (W.heap.size + 1 + 1) 4 #[.bool false] := by rw [hU]; exact Blk.new' _ _ (by simp)
  have hb : b < W.heap.size := hT.lt
  have hjb : jb < W.heap.size := hJ.1.lt W hI
  have HTU := Lib.hid (hT.grow hbU)
  have HIU := Lib.hid (hJ.1.grow hI hbU)
  have HP := Lib.hid hp
  have HJJ := Lib.hid hj
  have HR := Lib.hid hr
  have HJ := Lib.hid hJ
  have HBU := Lib.hid hbU
  have k0 : U.cell? ⟨W.heap.size, 0, none⟩ = some (.pointer (some ⟨b, 0, none⟩)) := hp.cell 0
  have hmf : ∀ (fn : Fn) (first cap : Array Value) (w : World), (Instr.makeFunc fn first cap).run Try.prog w = .ok (.func fn first cap) w := fun _ _ _ _ => rfl
  clear hT hJ hI hp hj hr hbU
  go_enter Try.func23, Try.ntmps23
  go_wp2_with fail
  rw [← hU]
  clear hU
  go_wp2_with fail
  refine (onceDo_first (o' := 1) (v' := v) (br' := false) (fun A B => Blk B (W.heap.size + 1 + 1) 4 #[.bool true] ∧ I' B ∧ Chg (fun k => k = b ∨ k = W.heap.size + 1 + 1 ∨ k = jb) A B) HTU.out (fun A hc hT => ?_)).mono ?_
  · refine (do1_ok I I' hT (HR.out.chg hc (by show ¬ W.heap.size + 1 + 1 = b; omega)) (HP.out.chg hc (by show ¬ W.heap.size = b; omega)) (HJJ.out.chg hc (by show ¬ W.heap.size + 1 = b; omega)) (by omega) (by omega) (by omega) (by omega) (by omega) n6 (by omega) (by omega) (by omega)
      (HJ.out.1.chg HIU.out hc (by show ¬ jb = b; omega)) (fun A B h hc => HJ.out.1.chg h hc (by show ¬ (jb = b ∨ jb = W.heap.size + 1 + 1); omega)) (fun A B h hc => HJ.out.2.1.chg h hc (by show ¬ (jb = b ∨ jb = W.heap.size + 1 + 1); omega)) HJ.out.2.2.1 HJ.out.2.2.2).mono ?_
    rintro e B ⟨rfl, h1, h2, h3, h4⟩
    exact ⟨rfl, h1, h2, h3, h4⟩
  rintro e W' ⟨rfl, hT', A, B, hcA, ⟨hrB, hIB, hcB⟩, hcW⟩
  have hr' : Blk W' (W.heap.size + 1 + 1) 4 #[.bool true] := hrB.chg hcW (by show ¬ W.heap.size + 1 + 1 = b; omega)
  have y0 : W'.cell? ⟨W.heap.size + 1 + 1, 0, none⟩ = some (.bool true) := hr'.cell 0
  have HI' := Lib.hid (HJ.out.2.1.chg hIB hcW (by show ¬ jb = b; omega))
  have HT' := Lib.hid hT'
  have HC' := Lib.hid (show Chg (fun k => k = b ∨ k = jb) W W' from
    (((Chg.of (fun k => k = b ∨ k = jb) HBU.out).step hcA (fun k _ e => .inl e)).step hcB (fun k hk e => e.elim .inl fun e => e.elim (fun e => absurd e (by omega)) .inr)).step hcW (fun k _ e => .inl e))
  clear hT' hcA hrB hIB hcB hcW hr'
  go_wp2_with fail
  go_ret
  exact ⟨rfl, HT'.out, HI'.out, HC'.out⟩
set_option maxRecDepth 100000 in
set_option maxHeartbeats 3200000 in
theorem taskdo_bad {b : Nat} {o v0 : Int} {br : Bool} {j : Option Value} {W : World} (hT : TaskAt W b 0 0 o v0 br j) :
    Calls Try.prog 23 #[.pointer (some ⟨b, 0, none⟩), job1 21 #[] #[]] W fun e W' => e = .returned (.bool true) ∧ TaskAt W' b 1 0 1 0 true j ∧ Chg (· = b) W W' := by
  obtain ⟨U, hU⟩ : ∃ U, U = ((W.alloc (.cells #[.pointer (some ⟨b, 0, none⟩)] 88)).alloc (.cells #[job1 21 #[] #[]] 29)).alloc (.cells #[.bool false] 4) := ⟨_, rfl⟩
  have hbU : Below W.heap.size W U := by rw [hU]; exact (((Below.refl _ _).alloc (Nat.le_refl _) _).alloc (by simp) _).alloc (by simp; omega) _
  have hp : Blk U W.heap.size 88 #[.pointer (some ⟨b, 0, none⟩)] := by rw [hU]; exact ((Blk.new W _ _).alloc _).alloc _
  have hj : Blk U (W.heap.size + 1) 29 #[job1 21 #[] #[]] := by rw [hU]; exact (Blk.new' _ _ (by simp)).alloc _
  have hr : Blk U (W.heap.size + 1 + 1) 4 #[.bool false] := by rw [hU]; exact Blk.new' _ _ (by simp)
  have hb : b < W.heap.size := hT.lt
  have HTU := Lib.hid (hT.grow hbU)
  have HP := Lib.hid hp
  have HJJ := Lib.hid hj
  have HR := Lib.hid hr
  have HBU := Lib.hid hbU
  have k0 : U.cell? ⟨W.heap.size, 0, none⟩ = some (.pointer (some ⟨b, 0, none⟩)) := hp.cell 0
  have hmf : ∀ (fn : Fn) (first cap : Array Value) (w : World), (Instr.makeFunc fn first cap).run Try.prog w = .ok (.func fn first cap) w := fun _ _ _ _ => rfl
  clear hT hp hj hr hbU
  go_enter Try.func23, Try.ntmps23
  go_wp2_with fail
  rw [← hU]
  clear hU
  go_wp2_with fail
  refine (onceDo_first (o' := 1) (v' := 0) (br' := true) (fun A B => Blk B (W.heap.size + 1 + 1) 4 #[.bool true] ∧ Chg (fun k => k = b ∨ k = W.heap.size + 1 + 1) A B) HTU.out (fun A hc hT => ?_)).mono ?_
  · refine (do1_bad hT (HR.out.chg hc (by show ¬ W.heap.size + 1 + 1 = b; omega)) (HP.out.chg hc (by show ¬ W.heap.size = b; omega)) (HJJ.out.chg hc (by show ¬ W.heap.size + 1 = b; omega)) (by omega) (by omega) (by omega) (by omega) (by omega)).mono ?_
    rintro e B ⟨rfl, h1, h2, h3⟩
    exact ⟨rfl, h1, h2, h3⟩
  rintro e W' ⟨rfl, hT', A, B, hcA, ⟨hrB, hcB⟩, hcW⟩
  have hr' : Blk W' (W.heap.size + 1 + 1) 4 #[.bool true] := hrB.chg hcW (by show ¬ W.heap.size + 1 + 1 = b; omega)
  have y0 : W'.cell? ⟨W.heap.size + 1 + 1, 0, none⟩ = some (.bool true) := hr'.cell 0
  have HT' := Lib.hid hT'
  have HC' := Lib.hid (show Chg (· = b) W W' from
    (((Chg.of (· = b) HBU.out).step hcA (fun k _ e => e)).step hcB (fun k hk e => e.elim id fun e => absurd e (by omega))).step hcW (fun k _ e => e))
  clear hT' hcA hrB hcB hcW hr'
  go_wp2_with fail
  go_ret
  exact ⟨rfl, HT'.out, HC'.out⟩
set_option maxRecDepth 100000 in
theorem taskdo_done {b jf : Nat} {fi ca : Array Value} {d L o v0 : Int} {br : Bool} {j : Option Value} {W : World} (hT : TaskAt W b d L o v0 br j) (hd : d ≠ 0) :
    Calls Try.prog 23 #[.pointer (some ⟨b, 0, none⟩), job1 jf fi ca] W fun e W' => e = .returned (.bool false) ∧ Below W.heap.size W W' := by
  obtain ⟨U, hU⟩ : ∃ U, U = ((W.alloc (.cells #[.pointer (some ⟨b, 0, none⟩)] 88)).alloc (.cells #[job1 jf fi ca] 29)).alloc (.cells #[.bool false] 4) := ⟨_, rfl⟩
  have hbU : Below W.heap.size W U := by rw [hU]; exact (((Below.refl _ _).alloc (Nat.le_refl _) _).alloc (by simp) _).alloc (by simp; omega) _
  have hp : Blk U W.heap.size 88 #[.pointer (some ⟨b, 0, none⟩)] := by rw [hU]; exact ((Blk.new W _ _).alloc _).alloc _
  have hr : Blk U (W.heap.size + 1 + 1) 4 #[.bool false] := by rw [hU]; exact Blk.new' _ _ (by simp)
  have HTU := Lib.hid (hT.grow hbU)
  have HBU := Lib.hid hbU
  have HD := Lib.hid hd
  have k0 : U.cell? ⟨W.heap.size, 0, none⟩ = some (.pointer (some ⟨b, 0, none⟩)) := hp.cell 0
  have k1 : U.cell? ⟨W.heap.size + 1 + 1, 0, none⟩ = some (.bool false) := hr.cell 0
  have hmf : ∀ (fn : Fn) (first cap : Array Value) (w : World), (Instr.makeFunc fn first cap).run Try.prog w = .ok (.func fn first cap) w := fun _ _ _ _ => rfl
  clear hT hp hr hbU hd
  go_enter Try.func23, Try.ntmps23
  go_wp2_with fail
  rw [← hU]
  clear hU
  go_wp2_with fail
  refine (onceDo_done HTU.out HD.out).mono ?_
  rintro e W' ⟨rfl, hw⟩
  rw [hw]
  clear hw
  go_wp2_with fail
  go_ret
  exact ⟨rfl, HBU.out⟩
end Go.Proofs.Ythkgemaajbjgaaa.On

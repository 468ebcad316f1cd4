/- Once: what catches a broken job; a task's job done. -/
import Derived.Test.YthkgemaajbjgaaaOnB
import Derived.Test.YthkgemaajbjgaaaRegn
namespace Go.Proofs.Ythkgemaajbjgaaa.On
open Go.RowKit
open Go.Proofs.Ythkgemaajbjgaaa.Vb Go.Proofs.Ythkgemaajbjgaaa.Ac

set_option maxRecDepth 100000 in
set_option maxHeartbeats 1600000 in
theorem catch_pan {pt b : Nat} {d L o v : Int} {br : Bool} {j : Option Value} {tp : TypeId} (u : TypeId) (pv : Value) (older : List PanicEntry) {W : World} (hp : Blk W pt tp #[.pointer (some ⟨b, 0, none⟩)]) (h : TaskAt W b d L o v br j) :
    CallsD Try.prog 40 #[.pointer (some ⟨pt, 0, none⟩)] (.panicking ({ v := .iface u pv, recovered := false } :: older)) W fun e u' W' =>
      e = .returned (.tuple #[]) ∧ u' = .panicking ({ v := .iface u pv, recovered := true } :: older) ∧ W' = (W.setCell ⟨b, 4, none⟩ (.int .i64 0)).setCell ⟨b, 5, none⟩ (.bool true) := by
  obtain ⟨c0, c1, c3, c4, c5, c6⟩ := h.cells
  have f4 := h.fro 4
  have f5 := h.fro 5
  have k0 : W.cell? ⟨pt, 0, none⟩ = some (.pointer (some ⟨b, 0, none⟩)) := hp.cell 0
  refine callsD_of_wpS Try.func40 rfl fun c₀ cs hu => ?_
  apply wpS_seq
  apply wpS_region
  simp [wpOpsS, go_sem, recoverD, hu, Try.ntmps40, Exit.thenS]
  refine wpS_cond (t := true) (by simp [Act.eval, Array.replicate]) ?_
  simp only [if_true]
  refine wpS_of_wp ?_
  go_wp2_with fail
  simp [bodyPostS, results, Try.results40]
set_option maxRecDepth 100000 in
theorem catch_idle (pt : Nat) (W : World) :
    CallsD Try.prog 40 #[.pointer (some ⟨pt, 0, none⟩)] .returning W fun e u' W' => e = .returned (.tuple #[]) ∧ u' = .returning ∧ W' = W := by
  refine callsD_of_wpS Try.func40 rfl fun c₀ cs hu => ?_
  apply wpS_seq
  apply wpS_region
  simp [wpOpsS, go_sem, recoverD, hu, Try.ntmps40, Exit.thenS]
  refine wpS_cond (t := false) (by simp [Act.eval, Array.replicate]) ?_
  simp only [Bool.false_eq_true, if_false]
  refine wpS_of_wp (wp_skip ?_)
  cases c₀
  simp_all [bodyPostS, results, Try.results40]
abbrev job1 (jf : Nat) (fi ca : Array Value) : Value := .func (.func jf) fi ca
set_option maxRecDepth 100000 in
set_option maxHeartbeats 3200000 in
/-- the job done, and it answers -/
theorem do1_ok {b pr pt pj jf jb : Nat} {fi ca : Array Value} {L o v0 v : Int} {br r0 : Bool} {j : Option Value} {tr tp tj : TypeId} {W : World} (I I' : World → Prop)
    (hT : TaskAt W b 0 L o v0 br j) (hr : Blk W pr tr #[.bool r0]) (hp : Blk W pt tp #[.pointer (some ⟨b, 0, none⟩)]) (hj : Blk W pj tj #[job1 jf fi ca])
    (n1 : b ≠ pr) (n2 : b ≠ pt) (n3 : b ≠ pj) (n4 : pr ≠ pt) (n5 : pr ≠ pj) (n6 : jb ≠ b) (n7 : jb ≠ pr) (n8 : jb ≠ pt) (n9 : jb ≠ pj)
    (hI : I W) (hsame : ∀ A B, I A → Chg (fun k => k = b ∨ k = pr) A B → I B) (hsame' : ∀ A B, I' A → Chg (fun k => k = b ∨ k = pr) A B → I' B)
    (hjob : ∀ A, I A → Calls Try.prog jf (fi ++ ca) A fun e B => e = .returned (.int .i64 v) ∧ Chg (· = jb) A B ∧ I' B) (eg : ∀ args A, (callFunc jf args).run Try.prog A = .ok (.enter jf args) A) :
    Calls Try.prog 38 #[.pointer (some ⟨pr, 0, none⟩), .pointer (some ⟨pt, 0, none⟩), .pointer (some ⟨pj, 0, none⟩)] W fun e W' => e = .returned (.tuple #[]) ∧
      TaskAt W' b 0 L 1 v false j ∧ Blk W' pr tr #[.bool true] ∧ I' W' ∧ Chg (fun k => k = b ∨ k = pr ∨ k = jb) W W' := by
  obtain ⟨c0, c1, c3, c4, c5, c6⟩ := hT.cells
  have f3 := hT.fro 3
  have f4 := hT.fro 4
  have f5 := hT.fro 5
  have q0 : W.cell? ⟨pr, 0, none⟩ = some (.bool r0) := hr.cell 0
  have q1 : W.frozen? ⟨pr, 0, none⟩ = false := hr.frozen 0
  have q2 : W.cell? ⟨pt, 0, none⟩ = some (.pointer (some ⟨b, 0, none⟩)) := hp.cell 0
  have q3 : W.cell? ⟨pj, 0, none⟩ = some (job1 jf fi ca) := hj.cell 0
  have hmf : ∀ (fn : Fn) (first cap : Array Value) (w : World), (Instr.makeFunc fn first cap).run Try.prog w = .ok (.func fn first cap) w := fun _ _ _ _ => rfl
  have HT := Lib.hid hT
  have HJ := Lib.hid hjob
  have HI := Lib.hid hI
  have HS := Lib.hid hsame
  have HS' := Lib.hid hsame'
  have HR := Lib.hid hr
  have HP := Lib.hid hp
  have HPJ := Lib.hid hj
  clear hT hjob hI hsame hsame' hr hp hj
  go_enter_defers Try.func38, Try.ntmps38
  go_wp2_with fail
  obtain ⟨V, hV⟩ : ∃ V, V = (W.setCell ⟨pr, 0, none⟩ (.bool true)).setCell ⟨b, 5, none⟩ (.bool true) := ⟨_, rfl⟩
  have HTV := Lib.hid (show TaskAt V b 0 L o v0 true j by rw [hV]; exact (HT.out.same (Below.heap_setCell W ⟨pr, 0, none⟩ _ b n1)).set5 true)
  have HRV := Lib.hid (show Blk V pr tr #[.bool true] by rw [hV]; exact (HR.out.set_ 0 (.bool true)).far (p := ⟨b, 5, none⟩) (fun e => n1 e.symm) _)
  have hcV : Chg (fun k => k = b ∨ k = pr) W V := by rw [hV]; exact ((Chg.set W ⟨pr, 0, none⟩ _).mono fun k _ e => .inr e).trans ((Chg.set _ ⟨b, 5, none⟩ _).mono fun k _ e => .inl e)
  have hpV : Blk V pt tp #[.pointer (some ⟨b, 0, none⟩)] := HP.out.chg hcV (by rintro (e | e); exact n2 e.symm; exact n4 e.symm)
  have hjV : Blk V pj tj #[job1 jf fi ca] := HPJ.out.chg hcV (by rintro (e | e); exact n3 e.symm; exact n5 e.symm)
  have HIV := Lib.hid (HS.out _ _ HI.out hcV)
  have HCV := Lib.hid hcV
  have HPV := Lib.hid hpV
  have HJV := Lib.hid hjV
  have k2 : V.cell? ⟨pt, 0, none⟩ = some (.pointer (some ⟨b, 0, none⟩)) := hpV.cell 0
  have k3 : V.cell? ⟨pj, 0, none⟩ = some (job1 jf fi ca) := hjV.cell 0
  rw [← hV]
  clear hV hcV hpV hjV c0 c1 c3 c4 c5 c6 f3 f4 f5 q0 q1 q2 q3
  refine wp_region_P (fun A => A.heap[pt]? = V.heap[pt]? ∧ A.heap[pj]? = V.heap[pj]?) [5] (by kernel_rfl) ⟨rfl, rfl⟩ (fun hS => ?_)
  refine wpAnyF_take (i := 0) (oi := { dst := some 10, op := Go.Op.load 88 (Go.Operand.tmp 1), type := 88, pos := "once.go:32", after := #[], guard := none }) (v := ?_) rfl (by kernel_rfl) (by kernel_rfl) (by kernel_rfl) (by kernel_rfl) (fun _ _ _ h => h) (Or.inl ⟨by rfl, ?_⟩) hS ?_
  rotate_left
  · intro w' hSw; have q2 := (World.cell?_of_block (a := ⟨pt, 0, none⟩) hSw.1).trans k2; have q3 := (World.cell?_of_block (a := ⟨pj, 0, none⟩) hSw.2).trans k3; go_simp; try with_reducible rfl
  try simp only [Act.put, List.setIfInBounds_toArray, List.set_cons_zero, List.set_cons_succ]
  refine wpAnyF_take (i := 1) (oi := { dst := some 11, op := Go.Op.load 29 (Go.Operand.tmp 2), type := 29, pos := "once.go:32", after := #[], guard := none }) (v := ?_) rfl (by kernel_rfl) (by kernel_rfl) (by kernel_rfl) (by kernel_rfl) (fun _ _ _ h => h) (Or.inl ⟨by rfl, ?_⟩) hS ?_
  rotate_left
  · intro w' hSw; have q2 := (World.cell?_of_block (a := ⟨pt, 0, none⟩) hSw.1).trans k2; have q3 := (World.cell?_of_block (a := ⟨pj, 0, none⟩) hSw.2).trans k3; go_simp; try with_reducible rfl
  try simp only [Act.put, List.setIfInBounds_toArray, List.set_cons_zero, List.set_cons_succ]
  refine wpAnyF_ready (rs := [2]) (by kernel_rfl) (by simp) ?_
  refine AllReadyF.cons (o := { dst := some 12, op := Go.Op.call { callee := Go.Callee.value (Go.Operand.tmp 11), args := #[], argTypes := #[] }, type := 2, pos := "once.go:32", after := #[{ on := 1, ground := Go.Ground.data }], guard := none }) rfl (by rfl) (fun K hK => ?_) ?_
  · go_simp
    refine (HJ.out V.drew (HS.out _ _ HIV.out ((Chg.refl _ _).drewN 1))).mono ?_
    rintro e B ⟨rfl, hcB, hIB⟩
    have HCB := Lib.hid (show Chg (· = jb) V B from ((Chg.refl _ V).drewN 1).trans hcB)
    have HIB := Lib.hid hIB
    clear hcB hIB
    refine hK.out _ _ ?_ (fun hS => ?_)
    · exact ⟨HCB.out.block pt HPV.out.lt (fun e => n8 e.symm), HCB.out.block pj HJV.out.lt (fun e => n9 e.symm)⟩
    clear hK K
    try simp only [Act.put, List.setIfInBounds_toArray, List.set_cons_zero, List.set_cons_succ]
    refine wpAnyF_ready (rs := [3]) (by kernel_rfl) (by simp) ?_
    refine AllReadyF.cons (o := { dst := some 13, op := Go.Op.nilCheck (Go.Operand.tmp 10), type := 0, pos := "once.go:32", after := #[{ on := 0, ground := Go.Ground.data }, { on := 0, ground := Go.Ground.phase }, { on := 1, ground := Go.Ground.phase }, { on := 2, ground := Go.Ground.phase }], guard := none }) rfl (by rfl) (fun K hK => ?_) ?_
    · go_simp
      refine hK.out _ _ ?_ (fun hS => ?_)
      · exact hS
      clear hK K
      try simp only [Act.put, List.setIfInBounds_toArray, List.set_cons_zero, List.set_cons_succ]
      refine wpAnyF_take (i := 4) (oi := { dst := some 14, op := Go.Op.fieldAddr 49 (Go.Operand.tmp 13) 2, type := 0, pos := "once.go:32", after := #[{ on := 3, ground := Go.Ground.data }, { on := 0, ground := Go.Ground.phase }, { on := 1, ground := Go.Ground.phase }, { on := 2, ground := Go.Ground.phase }], guard := none }) (v := ?_) rfl (by kernel_rfl) (by kernel_rfl) (by kernel_rfl) (by kernel_rfl) (fun _ _ _ h => h) (Or.inl ⟨by rfl, ?_⟩) hS ?_
      rotate_left
      · intro w' hSw; have q2 := (World.cell?_of_block (a := ⟨pt, 0, none⟩) hSw.1).trans k2; have q3 := (World.cell?_of_block (a := ⟨pj, 0, none⟩) hSw.2).trans k3; go_simp; try with_reducible rfl
      try simp only [Act.put, List.setIfInBounds_toArray, List.set_cons_zero, List.set_cons_succ]
      refine wpAnyF_ready (rs := [5]) (by kernel_rfl) (by simp) ?_
      refine AllReadyF.fin (o := { dst := none, op := Go.Op.store 2 (Go.Operand.tmp 14) (Go.Operand.tmp 12), type := 0, pos := "once.go:32", after := #[{ on := 4, ground := Go.Ground.data }, { on := 2, ground := Go.Ground.data }, { on := 2, ground := Go.Ground.chain }, { on := 0, ground := Go.Ground.phase }, { on := 1, ground := Go.Ground.phase }, { on := 2, ground := Go.Ground.phase }], guard := none }) rfl (by rfl) (fun K hK => ?_) ?_
      · have hTB := HTV.out.chg HCB.out (fun e => n6 e.symm)
        have y4 := hTB.cells.2.2.2.1
        have g4 := hTB.fro 4
        go_simp
        clear hTB y4 g4
        refine hK.out _ _ ?_
        clear hK K
        try simp only [Act.put, List.setIfInBounds_toArray, List.set_cons_zero, List.set_cons_succ]
        refine wpAnyF_done (by kernel_rfl) (noPanic_normal ?_) _
        clear hS
        obtain ⟨C, hC⟩ : ∃ C, C = B.setCell ⟨b, 4, none⟩ (.int .i64 v) := ⟨_, rfl⟩
        have hTC : TaskAt C b 0 L o v true j := by rw [hC]; exact (HTV.out.chg HCB.out (fun e => n6 e.symm)).set4 v
        have hcC : Chg (fun k => k = b ∨ k = jb) V C := by rw [hC]; exact (HCB.out.mono fun k _ e => .inr e).trans ((Chg.set _ ⟨b, 4, none⟩ _).mono fun k _ e => .inl e)
        have k4 : C.cell? ⟨pt, 0, none⟩ = some (.pointer (some ⟨b, 0, none⟩)) := (HPV.out.chg hcC (by rintro (e | e); exact n2 e.symm; exact n8 e.symm)).cell 0
        have y5 := hTC.cells.2.2.2.2.1
        have g5 := hTC.fro 5
        have HIC := Lib.hid (HS'.out _ _ HIB.out (show Chg (fun k => k = b ∨ k = pr) B C by rw [hC]; exact (Chg.set _ ⟨b, 4, none⟩ _).mono fun k _ e => .inl e))
        rw [← hC]
        clear hC k2 k3
        go_wp2_with fail
        obtain ⟨D, hD⟩ : ∃ D, D = C.setCell ⟨b, 5, none⟩ (.bool false) := ⟨_, rfl⟩
        have hTD : TaskAt D b 0 L o v false j := by rw [hD]; exact hTC.set5 false
        have hcD : Chg (fun k => k = b ∨ k = jb) V D := by rw [hD]; exact hcC.trans ((Chg.set _ ⟨b, 5, none⟩ _).mono fun k _ e => .inl e)
        have HID := Lib.hid (HS'.out _ _ HIC.out (show Chg (fun k => k = b ∨ k = pr) C D by rw [hD]; exact (Chg.set _ ⟨b, 5, none⟩ _).mono fun k _ e => .inl e))
        rw [← hD]
        clear hD k4 y5 g5
        refine leaves_cons (f := 40) (args := #[.pointer (some ⟨pt, 0, none⟩)]) (by simp) (by simp [go_sem]) ?_
        refine (catch_idle pt _).mono ?_
        rintro e u' w'' ⟨rfl, rfl, rfl⟩
        refine leaves_cons (f := 39) (args := #[.pointer (some ⟨b, 3, none⟩), .bool true]) (by simp [settle]) (by simp [go_sem]) ?_
        refine (store_def ⟨b, 3, none⟩ (.int .u32 o) _ _ hTD.cells.2.2.1 (hTD.fro 3)).mono ?_
        rintro e u' w'' ⟨rfl, rfl, rfl⟩
        simp [Leaves, settle, results, Try.results38]
        exact ⟨(hTD.grow ((Below.refl _ _).drew)).set3 1,
          ((HRV.out.chg hcD (by rintro (e | e); exact n1 e.symm; exact n7 e.symm)).grow ((Below.refl _ _).drew)).far (p := ⟨b, 3, none⟩) (fun e => n1 e.symm) _,
          HS'.out _ _ HID.out (((Chg.refl _ w'').drewN 1).trans ((Chg.set _ ⟨b, 3, none⟩ _).mono fun k _ e => .inl e)),
          ((HCV.out.mono fun k _ e => e.elim .inl fun e => .inr (.inl e)).trans (hcD.mono fun k _ e => e.elim .inl fun e => .inr (.inr e))).trans (((Chg.refl _ w'').drewN 1).trans ((Chg.set _ ⟨b, 3, none⟩ _).mono fun k _ e => .inl e))⟩
      exact AllReadyF.nil
    exact AllReadyF.nil
  exact AllReadyF.nil
set_option maxRecDepth 100000 in
set_option maxHeartbeats 3200000 in
/-- the job done, and it breaks -/
theorem do1_bad {b pr pt pj : Nat} {L o v0 : Int} {br r0 : Bool} {j : Option Value} {tr tp tj : TypeId} {W : World}
    (hT : TaskAt W b 0 L o v0 br j) (hr : Blk W pr tr #[.bool r0]) (hp : Blk W pt tp #[.pointer (some ⟨b, 0, none⟩)]) (hj : Blk W pj tj #[job1 21 #[] #[]])
    (n1 : b ≠ pr) (n2 : b ≠ pt) (n3 : b ≠ pj) (n4 : pr ≠ pt) (n5 : pr ≠ pj) :
    Calls Try.prog 38 #[.pointer (some ⟨pr, 0, none⟩), .pointer (some ⟨pt, 0, none⟩), .pointer (some ⟨pj, 0, none⟩)] W fun e W' => e = .returned (.tuple #[]) ∧
      TaskAt W' b 0 L 1 0 true j ∧ Blk W' pr tr #[.bool true] ∧ Chg (fun k => k = b ∨ k = pr) W W' := by
  obtain ⟨c0, c1, c3, c4, c5, c6⟩ := hT.cells
  have f3 := hT.fro 3
  have f4 := hT.fro 4
  have f5 := hT.fro 5
  have q0 : W.cell? ⟨pr, 0, none⟩ = some (.bool r0) := hr.cell 0
  have q1 : W.frozen? ⟨pr, 0, none⟩ = false := hr.frozen 0
  have q2 : W.cell? ⟨pt, 0, none⟩ = some (.pointer (some ⟨b, 0, none⟩)) := hp.cell 0
  have q3 : W.cell? ⟨pj, 0, none⟩ = some (job1 21 #[] #[]) := hj.cell 0
  have hmf : ∀ (fn : Fn) (first cap : Array Value) (w : World), (Instr.makeFunc fn first cap).run Try.prog w = .ok (.func fn first cap) w := fun _ _ _ _ => rfl
  have HT := Lib.hid hT
  have HR := Lib.hid hr
  have HP := Lib.hid hp
  have HPJ := Lib.hid hj
  clear hT hr hp hj
  go_enter_defers Try.func38, Try.ntmps38
  go_wp2_with fail
  obtain ⟨V, hV⟩ : ∃ V, V = (W.setCell ⟨pr, 0, none⟩ (.bool true)).setCell ⟨b, 5, none⟩ (.bool true) := ⟨_, rfl⟩
  have HTV := Lib.hid (show TaskAt V b 0 L o v0 true j by rw [hV]; exact (HT.out.same (Below.heap_setCell W ⟨pr, 0, none⟩ _ b n1)).set5 true)
  have HRV := Lib.hid (show Blk V pr tr #[.bool true] by rw [hV]; exact (HR.out.set_ 0 (.bool true)).far (p := ⟨b, 5, none⟩) (fun e => n1 e.symm) _)
  have hcV : Chg (fun k => k = b ∨ k = pr) W V := by rw [hV]; exact ((Chg.set W ⟨pr, 0, none⟩ _).mono fun k _ e => .inr e).trans ((Chg.set _ ⟨b, 5, none⟩ _).mono fun k _ e => .inl e)
  have hpV : Blk V pt tp #[.pointer (some ⟨b, 0, none⟩)] := HP.out.chg hcV (by rintro (e | e); exact n2 e.symm; exact n4 e.symm)
  have hjV : Blk V pj tj #[job1 21 #[] #[]] := HPJ.out.chg hcV (by rintro (e | e); exact n3 e.symm; exact n5 e.symm)
  have HCV := Lib.hid hcV
  have HPV := Lib.hid hpV
  have k2 : V.cell? ⟨pt, 0, none⟩ = some (.pointer (some ⟨b, 0, none⟩)) := hpV.cell 0
  have k3 : V.cell? ⟨pj, 0, none⟩ = some (job1 21 #[] #[]) := hjV.cell 0
  rw [← hV]
  clear hV hcV hpV hjV c0 c1 c3 c4 c5 c6 f3 f4 f5 q0 q1 q2 q3
  have hdoor : ∀ tm : Array Value, bodyPostD Try.prog Try.f38 (fun e W' => e = .returned (.tuple #[]) ∧ TaskAt W' b 0 L 1 0 true j ∧ Blk W' pr tr #[.bool true] ∧ Chg (fun k => k = b ∨ k = pr) W W') (Exit.panic [pan])
      { tmps := tm, defers := [{ target := .fn (.func 40) #[.pointer (some ⟨pt, 0, none⟩)], args := #[] }, { target := .fn (.func 39) #[], args := #[.pointer (some ⟨b, 3, none⟩), .bool true] }] } V.drew := by
    intro tm
    refine leaves_cons (f := 40) (args := #[.pointer (some ⟨pt, 0, none⟩)]) (by simp) (by simp [go_sem]) ?_
    refine (catch_pan _ _ [] (HPV.out.grow ((Below.refl _ _).drew)) (HTV.out.grow ((Below.refl _ _).drew))).mono ?_
    rintro e u' w'' ⟨rfl, rfl, hw''⟩
    have hTD : TaskAt w'' b 0 L o 0 true j := by rw [hw'']; exact ((HTV.out.grow ((Below.refl _ _).drew)).set4 0).set5 true
    have hcD : Chg (fun k => k = b ∨ k = pr) W w'' := by rw [hw'']; exact ((HCV.out.trans ((Chg.refl _ V).drewN 1)).trans ((Chg.set _ ⟨b, 4, none⟩ _).mono fun k _ e => .inl e)).trans ((Chg.set _ ⟨b, 5, none⟩ _).mono fun k _ e => .inl e)
    have hrD : Blk w'' pr tr #[.bool true] := by rw [hw'']; exact ((HRV.out.grow ((Below.refl _ _).drew)).far (p := ⟨b, 4, none⟩) (fun e => n1 e.symm) _).far (p := ⟨b, 5, none⟩) (fun e => n1 e.symm) _
    clear hw''
    refine leaves_cons (f := 39) (args := #[.pointer (some ⟨b, 3, none⟩), .bool true]) (by simp [settle]) (by simp [go_sem]) ?_
    refine (store_def ⟨b, 3, none⟩ (.int .u32 o) _ _ hTD.cells.2.2.1 (hTD.fro 3)).mono ?_
    rintro e u' w3 ⟨rfl, rfl, rfl⟩
    simp [Leaves, settle, results, Try.results38]
    exact ⟨(hTD.grow ((Below.refl _ _).drew)).set3 1, (hrD.grow ((Below.refl _ _).drew)).far (p := ⟨b, 3, none⟩) (fun e => n1 e.symm) _, hcD.trans (((Chg.refl _ w'').drewN 1).trans ((Chg.set _ ⟨b, 3, none⟩ _).mono fun k _ e => .inl e))⟩
  refine wp_region_F (· = V.drew) [] (by kernel_rfl) rfl (fun hS => ?_)
  refine wpAnyF_ready (rs := [0, 1]) (by kernel_rfl) (by simp) ?_
  refine AllReadyF.cons (o := { dst := some 10, op := Go.Op.load 88 (Go.Operand.tmp 1), type := 88, pos := "once.go:32", after := #[], guard := none }) rfl (by rfl) (fun K hK => ?_) ?_
  · have r2 : V.drew.cell? ⟨pt, 0, none⟩ = some (.pointer (some ⟨b, 0, none⟩)) := k2
    go_simp
    clear r2
    refine hK.out _ _ ?_ (fun hS => ?_)
    · exact hS
    clear hK K
    try simp only [Act.put, List.setIfInBounds_toArray, List.set_cons_zero, List.set_cons_succ]
    refine wpAnyF_ready (rs := [1]) (by kernel_rfl) (by simp) ?_
    refine AllReadyF.cons (o := { dst := some 11, op := Go.Op.load 29 (Go.Operand.tmp 2), type := 29, pos := "once.go:32", after := #[], guard := none }) rfl (by rfl) (fun K hK => ?_) ?_
    · have r3 : V.drew.cell? ⟨pj, 0, none⟩ = some (job1 21 #[] #[]) := k3
      go_simp
      clear r3
      refine hK.out _ _ ?_ (fun hS => ?_)
      · exact hS
      clear hK K
      try simp only [Act.put, List.setIfInBounds_toArray, List.set_cons_zero, List.set_cons_succ]
      refine wpAnyF_ready (rs := [2]) (by kernel_rfl) (by simp) ?_
      refine AllReadyF.cons (o := { dst := some 12, op := Go.Op.call { callee := Go.Callee.value (Go.Operand.tmp 11), args := #[], argTypes := #[] }, type := 2, pos := "once.go:32", after := #[{ on := 1, ground := Go.Ground.data }], guard := none }) rfl (by rfl) (fun K hK => ?_) ?_
      · go_simp
        refine (wrong1_any _).mono ?_
        rintro e B ⟨rfl, hB⟩
        rw [hB]
        exact hdoor _
      exact AllReadyF.nil
    exact AllReadyF.nil
  refine AllReadyF.cons (o := { dst := some 11, op := Go.Op.load 29 (Go.Operand.tmp 2), type := 29, pos := "once.go:32", after := #[], guard := none }) rfl (by rfl) (fun K hK => ?_) ?_
  · have r3 : V.drew.cell? ⟨pj, 0, none⟩ = some (job1 21 #[] #[]) := k3
    go_simp
    clear r3
    refine hK.out _ _ ?_ (fun hS => ?_)
    · exact hS
    clear hK K
    try simp only [Act.put, List.setIfInBounds_toArray, List.set_cons_zero, List.set_cons_succ]
    refine wpAnyF_ready (rs := [0, 2]) (by kernel_rfl) (by simp) ?_
    refine AllReadyF.cons (o := { dst := some 10, op := Go.Op.load 88 (Go.Operand.tmp 1), type := 88, pos := "once.go:32", after := #[], guard := none }) rfl (by rfl) (fun K hK => ?_) ?_
    · have r2 : V.drew.cell? ⟨pt, 0, none⟩ = some (.pointer (some ⟨b, 0, none⟩)) := k2
      go_simp
      clear r2
      refine hK.out _ _ ?_ (fun hS => ?_)
      · exact hS
      clear hK K
      try simp only [Act.put, List.setIfInBounds_toArray, List.set_cons_zero, List.set_cons_succ]
      refine wpAnyF_ready (rs := [2]) (by kernel_rfl) (by simp) ?_
      refine AllReadyF.cons (o := { dst := some 12, op := Go.Op.call { callee := Go.Callee.value (Go.Operand.tmp 11), args := #[], argTypes := #[] }, type := 2, pos := "once.go:32", after := #[{ on := 1, ground := Go.Ground.data }], guard := none }) rfl (by rfl) (fun K hK => ?_) ?_
      · go_simp
        refine (wrong1_any _).mono ?_
        rintro e B ⟨rfl, hB⟩
        rw [hB]
        exact hdoor _
      exact AllReadyF.nil
    refine AllReadyF.cons (o := { dst := some 12, op := Go.Op.call { callee := Go.Callee.value (Go.Operand.tmp 11), args := #[], argTypes := #[] }, type := 2, pos := "once.go:32", after := #[{ on := 1, ground := Go.Ground.data }], guard := none }) rfl (by rfl) (fun K hK => ?_) ?_
    · go_simp
      refine (wrong1_any _).mono ?_
      rintro e B ⟨rfl, hB⟩
      rw [hB]
      exact hdoor _
    exact AllReadyF.nil
  exact AllReadyF.nil
end Go.Proofs.Ythkgemaajbjgaaa.On

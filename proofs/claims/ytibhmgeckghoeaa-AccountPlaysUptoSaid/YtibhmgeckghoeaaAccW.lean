/- Account: a step on an account; asked. (Printed by tools/gen_asked.py.) -/
import Derived.Test.YtibhmgeckghoeaaAccU
namespace Go.Proofs.Ytibhmgeckghoeaa.Ac
open Go.RowKit Go.Shelf Go.Maps
open Go.Proofs.Ytibhmgeckghoeaa.Vb
attribute [local go_sem] Oper.semAt_some

/-- a step of the script -/
structure St where
  kind : Int
  who : Int
  to : Int
  lot : Int
  coins : Int
def St.vals (s : St) : Array Value := #[.int .i64 s.kind, .int .i64 s.who, .int .i64 s.to, .int .i64 s.lot, .int .i64 s.coins]
def St.wf (s : St) : Prop := int64b s.lot ∧ int64b s.coins
def relE (x : Int) : Int := if x < 0 then 2 else 0
def stepE (a : Acc) (s : St) : Int := if s.kind = 1 then a.bringE s.coins else if s.kind = 2 then a.holdE s.lot s.coins else if s.kind = 3 then relE s.lot else if s.kind = 4 then a.payE s.lot s.coins else if s.kind = 5 then a.takeE s.coins else 0
def stepA (a : Acc) (s : St) : Acc := if s.kind = 1 then a.bring s.coins else if s.kind = 2 then a.set s.lot s.coins else if s.kind = 3 then a.set s.lot 0 else if s.kind = 4 then a.pay s.lot s.coins else if s.kind = 5 then a.take s.coins else a
def stepG (a : Acc) (s : St) : Int := if s.kind = 3 then atM a.M s.lot else 0
theorem step_keeps {a : Acc} (ho : a.Ok) (hf : a.Fine) {s : St} (hs : s.wf) (h : stepE a s = 0) : (stepA a s).Ok ∧ (stepA a s).Fine := by
  obtain ⟨⟨l1, l2⟩, _⟩ := hs
  unfold stepE at h
  unfold stepA
  split at h
  · rw [if_pos (by assumption)]; exact bring_keeps ho hf h
  · rw [if_neg (by assumption)]
    split at h
    · rw [if_pos (by assumption)]; exact hold_keeps ho hf l2 h
    · rw [if_neg (by assumption)]
      split at h
      · rw [if_pos (by assumption)]
        unfold relE at h
        split at h
        · omega
        · exact release_keeps ho hf (by omega) l2
      · rw [if_neg (by assumption)]
        split at h
        · rw [if_pos (by assumption)]; exact pay_keeps ho hf l2 h
        · rw [if_neg (by assumption)]
          split at h
          · rw [if_pos (by assumption)]; exact take_keeps ho hf h
          · rw [if_neg (by assumption)]; exact ⟨ho, hf⟩

section
variable {b m n : Nat} {a : Acc} {w : World}
theorem pay_one (h : AccAt w b m n a) (ho : a.Ok) (hn : n < maxLen) {x v : Int} (hx : int64b x) :
    Calls Try.prog 32 #[.pointer (some ⟨b, 0, none⟩), .int .i64 x, .int .i64 v] w fun e w' =>
      e = .returned (.int .i64 (a.payE x v)) ∧ Chg (fun k => k = m ∨ k = b) w w' ∧ (a.payE x v ≠ 0 → AccAt w' b m (n + 1) a) ∧ (a.payE x v = 0 → AccAt w' b m (n + 1) (a.pay x v)) := by
  refine (pay_live h ho hn hx).mono ?_
  rintro e w' (⟨h1, rfl, h3⟩ | ⟨h1, rfl, h3, h4⟩)
  · exact ⟨rfl, Chg.of _ h3, fun _ => (h.grow h3).mono (Nat.le_succ _), fun h0 => absurd h0 h1⟩
  · exact ⟨by rw [h1], h4, fun h0 => absurd h1 h0, fun _ => h3⟩
theorem take_one (h : AccAt w b m n a) (ho : a.Ok) {v : Int} :
    Calls Try.prog 48 #[.pointer (some ⟨b, 0, none⟩), .int .i64 v] w fun e w' =>
      e = .returned (.int .i64 (a.takeE v)) ∧ Chg (fun k => k = m ∨ k = b) w w' ∧ (a.takeE v ≠ 0 → AccAt w' b m (n + 1) a) ∧ (a.takeE v = 0 → AccAt w' b m (n + 1) (a.take v)) := by
  refine (take_live h ho).mono ?_
  rintro e w' (⟨h1, rfl, h3⟩ | ⟨h1, rfl, h3, h4⟩)
  · exact ⟨rfl, Chg.of _ h3, fun _ => (h.grow h3).mono (Nat.le_succ _), fun h0 => absurd h0 h1⟩
  · exact ⟨by rw [h1], h4.mono fun _ _ h => .inr h, fun h0 => absurd h1 h0, fun _ => h3.mono (Nat.le_succ _)⟩
theorem bring_one (h : AccAt w b m n a) (ho : coin a.bud) {v : Int} :
    Calls Try.prog 43 #[.pointer (some ⟨b, 0, none⟩), .int .i64 v] w fun e w' =>
      e = .returned (.int .i64 (a.bringE v)) ∧ Chg (fun k => k = m ∨ k = b) w w' ∧ (a.bringE v ≠ 0 → AccAt w' b m (n + 1) a) ∧ (a.bringE v = 0 → AccAt w' b m (n + 1) (a.bring v)) := by
  refine (bring_live h ho).mono ?_
  rintro e w' (⟨h1, rfl, h3⟩ | ⟨h1, rfl, h3, h4⟩)
  · exact ⟨rfl, Chg.of _ h3, fun _ => (h.grow h3).mono (Nat.le_succ _), fun h0 => absurd h0 h1⟩
  · exact ⟨by rw [h1], h4.mono fun _ _ h => .inr h, fun h0 => absurd h1 h0, fun _ => h3.mono (Nat.le_succ _)⟩
theorem hold_two (h : AccAt w b m n a) (ho : a.Ok) (hn : n < maxLen) {x v : Int} (hx : int64b x) (hv : int64b v) :
    Calls Try.prog 9 #[.pointer (some ⟨b, 0, none⟩), .int .i64 x, .int .i64 v] w fun e w' =>
      e = .returned (.int .i64 (a.holdE x v)) ∧ Chg (fun k => k = m ∨ k = b) w w' ∧ (a.holdE x v ≠ 0 → AccAt w' b m (n + 1) a) ∧ (a.holdE x v = 0 → AccAt w' b m (n + 1) (a.set x v)) :=
  (hold_one h ho hn hx hv).mono fun _ _ ⟨h1, h2, h3⟩ => ⟨h1, h2.mono fun _ _ h => .inl h, h3⟩
theorem release_one (h : AccAt w b m n a) (hn : n < maxLen) {x : Int} (hx : int64b x) :
    Calls Try.prog 33 #[.pointer (some ⟨b, 0, none⟩), .int .i64 x] w fun e w' =>
      e = .returned (.tuple #[.int .i64 (atM a.M x), .int .i64 (relE x)]) ∧ Chg (fun k => k = m ∨ k = b) w w' ∧ (relE x ≠ 0 → AccAt w' b m (n + 1) a) ∧ (relE x = 0 → AccAt w' b m (n + 1) (a.set x 0)) := by
  refine (release_live h hn hx).mono ?_
  rintro e w' (⟨h1, rfl, h3⟩ | ⟨h1, rfl, h3, h4⟩)
  · have hr : relE x = 2 := if_pos h1
    exact ⟨by rw [hr], Chg.of _ h3, fun _ => (h.grow h3).mono (Nat.le_succ _), fun h0 => absurd h0 (by rw [hr]; decide)⟩
  · have hr : relE x = 0 := if_neg (by omega)
    exact ⟨by rw [hr], h4.mono fun _ _ h => .inl h, fun h0 => absurd hr h0, fun _ => h3⟩
end

def AskedP (b m n : Nat) (a : Acc) (s : St) (w : World) (e : Ending) (w' : World) : Prop :=
  e = .returned (.tuple #[.int .i64 (stepE a s), .int .i64 (stepG a s)]) ∧ Chg (fun k => k = m ∨ k = b) w w' ∧ (stepE a s ≠ 0 → AccAt w' b m (n + 1) a) ∧ (stepE a s = 0 → AccAt w' b m (n + 1) (stepA a s))

set_option maxRecDepth 100000 in
set_option maxHeartbeats 4000000 in
theorem asked_k1 {b m n : Nat} {a : Acc} {w : World} (h : AccAt w b m n a) (ho : a.Ok) (hn : n < maxLen) {who to lot coins : Int} (hs : int64b lot ∧ int64b coins) :
    Calls Try.prog 28 #[.pointer (some ⟨b, 0, none⟩), .agg #[.int .i64 1, .int .i64 who, .int .i64 to, .int .i64 lot, .int .i64 coins]] w (AskedP b m n a ⟨1, who, to, lot, coins⟩ w) := by
  obtain ⟨U, hU⟩ : ∃ U, U = w.alloc (.cells #[.int .i64 1, .int .i64 who, .int .i64 to, .int .i64 lot, .int .i64 coins] 45) := ⟨_, rfl⟩
  have hx : Blk U w.heap.size 45 #[.int .i64 1, .int .i64 who, .int .i64 to, .int .i64 lot, .int .i64 coins] := by rw [hU]; exact Blk.new w _ _
  have hB : Below w.heap.size w U := by rw [hU]; exact (Below.refl _ _).alloc (Nat.le_refl _) _
  have c0 : U.cell? ⟨w.heap.size, 0, none⟩ = some (.int .i64 1) := hx.cell 0
  have c3 : U.cell? ⟨w.heap.size, 3, none⟩ = some (.int .i64 lot) := hx.cell 3
  have c4 : U.cell? ⟨w.heap.size, 4, none⟩ = some (.int .i64 coins) := hx.cell 4
  have HU := Lib.hid hU
  have HA := Lib.hid (h.grow hB)
  have HCB := Lib.hid (Chg.of (fun k => k = m ∨ k = b) hB)
  have HO := Lib.hid ho
  have HN := Lib.hid hn
  have HX := Lib.hid hs.1
  have HV := Lib.hid hs.2
  clear hU hx hB h ho hn hs
  have HE := Lib.hid (show stepE a ⟨1, who, to, lot, coins⟩ = a.bringE coins from rfl)
  have HG := Lib.hid (show stepG a ⟨1, who, to, lot, coins⟩ = 0 from rfl)
  have HS := Lib.hid (show stepA a ⟨1, who, to, lot, coins⟩ = a.bring coins from rfl)
  obtain ⟨en, hen⟩ : ∃ z, z = a.bringE coins := ⟨_, rfl⟩
  have HEN := Lib.hid hen
  clear hen
  go_enter Try.func28, Try.ntmps28
  go_wp2_with fail
  rw [← HU.out]
  refine (bring_one HA.out HO.out.bud).mono ?_
  rintro e w5 ⟨rfl, h2, h3, h4⟩
  rw [← HEN.out]
  have H2 := Lib.hid (HCB.out.trans h2)
  have H3 := Lib.hid h3
  have H4 := Lib.hid h4
  clear h2 h3 h4
  go_wp2_with fail
  exact bodyPost_ret (v := .tuple #[.int .i64 en, .int .i64 0]) (by simp [results, Try.results28, go_sem]) rfl ⟨by rw [HE.out, HG.out, HEN.out], H2.out, by rw [HE.out]; exact H3.out, by rw [HE.out, HS.out]; exact H4.out⟩

set_option maxRecDepth 100000 in
set_option maxHeartbeats 4000000 in
theorem asked_k2 {b m n : Nat} {a : Acc} {w : World} (h : AccAt w b m n a) (ho : a.Ok) (hn : n < maxLen) {who to lot coins : Int} (hs : int64b lot ∧ int64b coins) :
    Calls Try.prog 28 #[.pointer (some ⟨b, 0, none⟩), .agg #[.int .i64 2, .int .i64 who, .int .i64 to, .int .i64 lot, .int .i64 coins]] w (AskedP b m n a ⟨2, who, to, lot, coins⟩ w) := by
  obtain ⟨U, hU⟩ : ∃ U, U = w.alloc (.cells #[.int .i64 2, .int .i64 who, .int .i64 to, .int .i64 lot, .int .i64 coins] 45) := ⟨_, rfl⟩
  have hx : Blk U w.heap.size 45 #[.int .i64 2, .int .i64 who, .int .i64 to, .int .i64 lot, .int .i64 coins] := by rw [hU]; exact Blk.new w _ _
  have hB : Below w.heap.size w U := by rw [hU]; exact (Below.refl _ _).alloc (Nat.le_refl _) _
  have c0 : U.cell? ⟨w.heap.size, 0, none⟩ = some (.int .i64 2) := hx.cell 0
  have c3 : U.cell? ⟨w.heap.size, 3, none⟩ = some (.int .i64 lot) := hx.cell 3
  have c4 : U.cell? ⟨w.heap.size, 4, none⟩ = some (.int .i64 coins) := hx.cell 4
  have HU := Lib.hid hU
  have HA := Lib.hid (h.grow hB)
  have HCB := Lib.hid (Chg.of (fun k => k = m ∨ k = b) hB)
  have HO := Lib.hid ho
  have HN := Lib.hid hn
  have HX := Lib.hid hs.1
  have HV := Lib.hid hs.2
  clear hU hx hB h ho hn hs
  have HE := Lib.hid (show stepE a ⟨2, who, to, lot, coins⟩ = a.holdE lot coins from rfl)
  have HG := Lib.hid (show stepG a ⟨2, who, to, lot, coins⟩ = 0 from rfl)
  have HS := Lib.hid (show stepA a ⟨2, who, to, lot, coins⟩ = a.set lot coins from rfl)
  obtain ⟨en, hen⟩ : ∃ z, z = a.holdE lot coins := ⟨_, rfl⟩
  have HEN := Lib.hid hen
  clear hen
  go_enter Try.func28, Try.ntmps28
  go_wp2_with fail
  rw [← HU.out]
  refine (hold_two HA.out HO.out HN.out HX.out HV.out).mono ?_
  rintro e w5 ⟨rfl, h2, h3, h4⟩
  rw [← HEN.out]
  have H2 := Lib.hid (HCB.out.trans h2)
  have H3 := Lib.hid h3
  have H4 := Lib.hid h4
  clear h2 h3 h4
  go_wp2_with fail
  exact bodyPost_ret (v := .tuple #[.int .i64 en, .int .i64 0]) (by simp [results, Try.results28, go_sem]) rfl ⟨by rw [HE.out, HG.out, HEN.out], H2.out, by rw [HE.out]; exact H3.out, by rw [HE.out, HS.out]; exact H4.out⟩

set_option maxRecDepth 100000 in
set_option maxHeartbeats 4000000 in
theorem asked_k3 {b m n : Nat} {a : Acc} {w : World} (h : AccAt w b m n a) (ho : a.Ok) (hn : n < maxLen) {who to lot coins : Int} (hs : int64b lot ∧ int64b coins) :
    Calls Try.prog 28 #[.pointer (some ⟨b, 0, none⟩), .agg #[.int .i64 3, .int .i64 who, .int .i64 to, .int .i64 lot, .int .i64 coins]] w (AskedP b m n a ⟨3, who, to, lot, coins⟩ w) := by
  obtain ⟨U, hU⟩ : ∃ U, U = w.alloc (.cells #[.int .i64 3, .int .i64 who, .int .i64 to, .int .i64 lot, .int .i64 coins] 45) := ⟨_, rfl⟩
  have hx : Blk U w.heap.size 45 #[.int .i64 3, .int .i64 who, .int .i64 to, .int .i64 lot, .int .i64 coins] := by rw [hU]; exact Blk.new w _ _
  have hB : Below w.heap.size w U := by rw [hU]; exact (Below.refl _ _).alloc (Nat.le_refl _) _
  have c0 : U.cell? ⟨w.heap.size, 0, none⟩ = some (.int .i64 3) := hx.cell 0
  have c3 : U.cell? ⟨w.heap.size, 3, none⟩ = some (.int .i64 lot) := hx.cell 3
  have c4 : U.cell? ⟨w.heap.size, 4, none⟩ = some (.int .i64 coins) := hx.cell 4
  have HU := Lib.hid hU
  have HA := Lib.hid (h.grow hB)
  have HCB := Lib.hid (Chg.of (fun k => k = m ∨ k = b) hB)
  have HO := Lib.hid ho
  have HN := Lib.hid hn
  have HX := Lib.hid hs.1
  have HV := Lib.hid hs.2
  clear hU hx hB h ho hn hs
  have HE := Lib.hid (show stepE a ⟨3, who, to, lot, coins⟩ = relE lot from rfl)
  have HG := Lib.hid (show stepG a ⟨3, who, to, lot, coins⟩ = atM a.M lot from rfl)
  have HS := Lib.hid (show stepA a ⟨3, who, to, lot, coins⟩ = a.set lot 0 from rfl)
  obtain ⟨en, hen⟩ : ∃ z, z = relE lot := ⟨_, rfl⟩
  have HEN := Lib.hid hen
  clear hen
  obtain ⟨gn, hgn⟩ : ∃ z, z = atM a.M lot := ⟨_, rfl⟩
  have HGN := Lib.hid hgn
  clear hgn
  go_enter Try.func28, Try.ntmps28
  go_wp2_with fail
  rw [← HU.out]
  refine (release_one HA.out HN.out HX.out).mono ?_
  rintro e w5 ⟨rfl, h2, h3, h4⟩
  rw [← HEN.out, ← HGN.out]
  have H2 := Lib.hid (HCB.out.trans h2)
  have H3 := Lib.hid h3
  have H4 := Lib.hid h4
  clear h2 h3 h4
  go_wp2_with fail
  exact bodyPost_ret (v := .tuple #[.int .i64 en, .int .i64 gn]) (by simp [results, Try.results28, go_sem]) rfl ⟨by rw [HE.out, HG.out, HEN.out, HGN.out], H2.out, by rw [HE.out]; exact H3.out, by rw [HE.out, HS.out]; exact H4.out⟩

set_option maxRecDepth 100000 in
set_option maxHeartbeats 4000000 in
theorem asked_k4 {b m n : Nat} {a : Acc} {w : World} (h : AccAt w b m n a) (ho : a.Ok) (hn : n < maxLen) {who to lot coins : Int} (hs : int64b lot ∧ int64b coins) :
    Calls Try.prog 28 #[.pointer (some ⟨b, 0, none⟩), .agg #[.int .i64 4, .int .i64 who, .int .i64 to, .int .i64 lot, .int .i64 coins]] w (AskedP b m n a ⟨4, who, to, lot, coins⟩ w) := by
  obtain ⟨U, hU⟩ : ∃ U, U = w.alloc (.cells #[.int .i64 4, .int .i64 who, .int .i64 to, .int .i64 lot, .int .i64 coins] 45) := ⟨_, rfl⟩
  have hx : Blk U w.heap.size 45 #[.int .i64 4, .int .i64 who, .int .i64 to, .int .i64 lot, .int .i64 coins] := by rw [hU]; exact Blk.new w _ _
  have hB : Below w.heap.size w U := by rw [hU]; exact (Below.refl _ _).alloc (Nat.le_refl _) _
  have c0 : U.cell? ⟨w.heap.size, 0, none⟩ = some (.int .i64 4) := hx.cell 0
  have c3 : U.cell? ⟨w.heap.size, 3, none⟩ = some (.int .i64 lot) := hx.cell 3
  have c4 : U.cell? ⟨w.heap.size, 4, none⟩ = some (.int .i64 coins) := hx.cell 4
  have HU := Lib.hid hU
  have HA := Lib.hid (h.grow hB)
  have HCB := Lib.hid (Chg.of (fun k => k = m ∨ k = b) hB)
  have HO := Lib.hid ho
  have HN := Lib.hid hn
  have HX := Lib.hid hs.1
  have HV := Lib.hid hs.2
  clear hU hx hB h ho hn hs
  have HE := Lib.hid (show stepE a ⟨4, who, to, lot, coins⟩ = a.payE lot coins from rfl)
  have HG := Lib.hid (show stepG a ⟨4, who, to, lot, coins⟩ = 0 from rfl)
  have HS := Lib.hid (show stepA a ⟨4, who, to, lot, coins⟩ = a.pay lot coins from rfl)
  obtain ⟨en, hen⟩ : ∃ z, z = a.payE lot coins := ⟨_, rfl⟩
  have HEN := Lib.hid hen
  clear hen
  go_enter Try.func28, Try.ntmps28
  go_wp2_with fail
  rw [← HU.out]
  refine (pay_one HA.out HO.out HN.out HX.out).mono ?_
  rintro e w5 ⟨rfl, h2, h3, h4⟩
  rw [← HEN.out]
  have H2 := Lib.hid (HCB.out.trans h2)
  have H3 := Lib.hid h3
  have H4 := Lib.hid h4
  clear h2 h3 h4
  go_wp2_with fail
  exact bodyPost_ret (v := .tuple #[.int .i64 en, .int .i64 0]) (by simp [results, Try.results28, go_sem]) rfl ⟨by rw [HE.out, HG.out, HEN.out], H2.out, by rw [HE.out]; exact H3.out, by rw [HE.out, HS.out]; exact H4.out⟩

set_option maxRecDepth 100000 in
set_option maxHeartbeats 4000000 in
theorem asked_k5 {b m n : Nat} {a : Acc} {w : World} (h : AccAt w b m n a) (ho : a.Ok) (hn : n < maxLen) {who to lot coins : Int} (hs : int64b lot ∧ int64b coins) :
    Calls Try.prog 28 #[.pointer (some ⟨b, 0, none⟩), .agg #[.int .i64 5, .int .i64 who, .int .i64 to, .int .i64 lot, .int .i64 coins]] w (AskedP b m n a ⟨5, who, to, lot, coins⟩ w) := by
  obtain ⟨U, hU⟩ : ∃ U, U = w.alloc (.cells #[.int .i64 5, .int .i64 who, .int .i64 to, .int .i64 lot, .int .i64 coins] 45) := ⟨_, rfl⟩
  have hx : Blk U w.heap.size 45 #[.int .i64 5, .int .i64 who, .int .i64 to, .int .i64 lot, .int .i64 coins] := by rw [hU]; exact Blk.new w _ _
  have hB : Below w.heap.size w U := by rw [hU]; exact (Below.refl _ _).alloc (Nat.le_refl _) _
  have c0 : U.cell? ⟨w.heap.size, 0, none⟩ = some (.int .i64 5) := hx.cell 0
  have c3 : U.cell? ⟨w.heap.size, 3, none⟩ = some (.int .i64 lot) := hx.cell 3
  have c4 : U.cell? ⟨w.heap.size, 4, none⟩ = some (.int .i64 coins) := hx.cell 4
  have HU := Lib.hid hU
  have HA := Lib.hid (h.grow hB)
  have HCB := Lib.hid (Chg.of (fun k => k = m ∨ k = b) hB)
  have HO := Lib.hid ho
  have HN := Lib.hid hn
  have HX := Lib.hid hs.1
  have HV := Lib.hid hs.2
  clear hU hx hB h ho hn hs
  have HE := Lib.hid (show stepE a ⟨5, who, to, lot, coins⟩ = a.takeE coins from rfl)
  have HG := Lib.hid (show stepG a ⟨5, who, to, lot, coins⟩ = 0 from rfl)
  have HS := Lib.hid (show stepA a ⟨5, who, to, lot, coins⟩ = a.take coins from rfl)
  obtain ⟨en, hen⟩ : ∃ z, z = a.takeE coins := ⟨_, rfl⟩
  have HEN := Lib.hid hen
  clear hen
  go_enter Try.func28, Try.ntmps28
  go_wp2_with fail
  rw [← HU.out]
  refine (take_one HA.out HO.out).mono ?_
  rintro e w5 ⟨rfl, h2, h3, h4⟩
  rw [← HEN.out]
  have H2 := Lib.hid (HCB.out.trans h2)
  have H3 := Lib.hid h3
  have H4 := Lib.hid h4
  clear h2 h3 h4
  go_wp2_with fail
  exact bodyPost_ret (v := .tuple #[.int .i64 en, .int .i64 0]) (by simp [results, Try.results28, go_sem]) rfl ⟨by rw [HE.out, HG.out, HEN.out], H2.out, by rw [HE.out]; exact H3.out, by rw [HE.out, HS.out]; exact H4.out⟩

set_option maxRecDepth 100000 in
set_option maxHeartbeats 4000000 in
theorem asked_k0 {b m n : Nat} {a : Acc} {w : World} (h : AccAt w b m n a) (ho : a.Ok) (hn : n < maxLen) {kind who to lot coins : Int} (hs : int64b lot ∧ int64b coins) (k1 : kind ≠ 1) (k2 : kind ≠ 2) (k3 : kind ≠ 3) (k4 : kind ≠ 4) (k5 : kind ≠ 5) :
    Calls Try.prog 28 #[.pointer (some ⟨b, 0, none⟩), .agg #[.int .i64 kind, .int .i64 who, .int .i64 to, .int .i64 lot, .int .i64 coins]] w (AskedP b m n a ⟨kind, who, to, lot, coins⟩ w) := by
  obtain ⟨U, hU⟩ : ∃ U, U = w.alloc (.cells #[.int .i64 kind, .int .i64 who, .int .i64 to, .int .i64 lot, .int .i64 coins] 45) := ⟨_, rfl⟩
  have hx : Blk U w.heap.size 45 #[.int .i64 kind, .int .i64 who, .int .i64 to, .int .i64 lot, .int .i64 coins] := by rw [hU]; exact Blk.new w _ _
  have hB : Below w.heap.size w U := by rw [hU]; exact (Below.refl _ _).alloc (Nat.le_refl _) _
  have c0 : U.cell? ⟨w.heap.size, 0, none⟩ = some (.int .i64 kind) := hx.cell 0
  have c3 : U.cell? ⟨w.heap.size, 3, none⟩ = some (.int .i64 lot) := hx.cell 3
  have c4 : U.cell? ⟨w.heap.size, 4, none⟩ = some (.int .i64 coins) := hx.cell 4
  have HU := Lib.hid hU
  have HA := Lib.hid (h.grow hB)
  have HCB := Lib.hid (Chg.of (fun k => k = m ∨ k = b) hB)
  have HO := Lib.hid ho
  have HN := Lib.hid hn
  have HX := Lib.hid hs.1
  have HV := Lib.hid hs.2
  clear hU hx hB h ho hn hs
  have HE := Lib.hid (show stepE a ⟨kind, who, to, lot, coins⟩ = 0 from by simp [stepE, k1, k2, k3, k4, k5])
  have HG := Lib.hid (show stepG a ⟨kind, who, to, lot, coins⟩ = 0 from by simp [stepG, k3])
  have HS := Lib.hid (show stepA a ⟨kind, who, to, lot, coins⟩ = a from by simp [stepA, k1, k2, k3, k4, k5])
  have d1 : (kind == 1) = false := by simpa using k1
  have d2 : (kind == 2) = false := by simpa using k2
  have d3 : (kind == 3) = false := by simpa using k3
  have d4 : (kind == 4) = false := by simpa using k4
  have d5 : (kind == 5) = false := by simpa using k5
  clear k1 k2 k3 k4 k5
  go_enter Try.func28, Try.ntmps28
  go_wp2_with fail
  rw [← HU.out]
  exact bodyPost_ret (v := .tuple #[.int .i64 0, .int .i64 0]) (by simp [results, Try.results28, go_sem]) rfl ⟨by rw [HE.out, HG.out], HCB.out, fun h0 => absurd HE.out h0, fun _ => by rw [HS.out]; exact HA.out.mono (Nat.le_succ _)⟩

theorem asked_any {b m n : Nat} {a : Acc} {w : World} (h : AccAt w b m n a) (ho : a.Ok) (hn : n < maxLen) {s : St} (hs : s.wf) :
    Calls Try.prog 28 #[.pointer (some ⟨b, 0, none⟩), .agg s.vals] w (AskedP b m n a s w) := by
  obtain ⟨kind, who, to, lot, coins⟩ := s
  by_cases k1 : kind = 1
  · subst k1; exact asked_k1 h ho hn hs
  by_cases k2 : kind = 2
  · subst k2; exact asked_k2 h ho hn hs
  by_cases k3 : kind = 3
  · subst k3; exact asked_k3 h ho hn hs
  by_cases k4 : kind = 4
  · subst k4; exact asked_k4 h ho hn hs
  by_cases k5 : kind = 5
  · subst k5; exact asked_k5 h ho hn hs
  exact asked_k0 h ho hn hs k1 k2 k3 k4 k5
end Go.Proofs.Ytibhmgeckghoeaa.Ac

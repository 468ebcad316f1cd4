/- Joined by program: TruU. -/
import Derived.Test.YtcigobiolbojhaaZk
import Derived.Test.YtcigobiolbojhaaZm
/- Law 29: TruthPays, walked. -/
namespace Go.Proofs.Ytcigobiolbojhaa.Vb
open Go.RowKit

theorem askedE_sm (n : Int) (bs : List (List Off)) (buyer r : Int) (ls : List (List Off)) : 0 ≤ askedE n bs buyer r ls ∧ askedE n bs buyer r ls ≤ 1000 := by
  have h0 := instE_bd n bs
  have h1 : ∀ ls : List (List Off), 0 ≤ firstE n ls ∧ firstE n ls ≤ 1000 := by
    intro ls
    induction ls with
    | nil => simp [firstE]
    | cons l ls ih =>
      have := checkE_bd n l
      simp only [firstE]
      split
      · exact this
      · exact ih
  have h2 := h1 ls
  unfold askedE
  split
  · omega
  · split <;> omega
theorem regretV_form (n : Int) (bs : List (List Off)) (buyer r : Int) (tr : List Off) (ts : List (List Off)) : ∃ ra rb : Int, regretV n bs buyer r tr ts = .tuple #[.int .i64 ra, .int .i64 rb, .int .i64 (askedE n bs buyer r (tr :: ts))] := by
  unfold regretV
  split
  · rename_i h
    exact ⟨_, _, by rw [h]⟩
  · exact ⟨_, _, rfl⟩
theorem sealedT_form (floor : Int) (l : List Sec) (b worth other : Int) : ∃ a o : Int, sealedT floor l b worth other = .tuple #[.int .i64 a, .int .i64 o, .int .i64 (wrongE floor l b [worth, other])] ∧ (wrongE floor l b [worth, other] = 0 → a = gainsW floor l b worth worth ∧ o = gainsW floor l b worth other) := by
  unfold sealedT
  split
  · rename_i h
    exact ⟨_, _, by rw [h], fun _ => ⟨rfl, rfl⟩⟩
  · rename_i h
    exact ⟨0, 0, rfl, fun h2 => absurd h2 h⟩
theorem wrongE_two {floor : Int} {l : List Sec} {b worth other : Int} (hz : wrongE floor l b [worth, other] = 0) : sellE floor l = 0 ∧ 0 ≤ b ∧ coinB worth = true ∧ coinB other = true := by
  unfold wrongE at hz
  split at hz
  · rename_i h1; exact absurd hz h1
  · rename_i h1
    split at hz
    · omega
    · split at hz
      · omega
      · rename_i h2 h3
        simp [notCoin] at h3
        exact ⟨by simpa using h1, by omega, h3.1, h3.2⟩
theorem wrongE_one {floor : Int} {l : List Sec} {b worth : Int} (h1 : sellE floor l = 0) (h2 : 0 ≤ b) (h3 : coinB worth = true) : wrongE floor l b [worth] = 0 := by
  unfold wrongE
  rw [if_neg (by simpa using h1), if_neg (by omega), if_neg (by simp [notCoin, h3])]
theorem wrongE_four {floor : Int} {l : List Sec} {b worth other : Int} (h1 : sellE floor l = 0) (h2 : 0 ≤ b) (h3 : coinB worth = true) (h4 : coinB other = true) : wrongE floor l b [worth, other] = 0 := by
  unfold wrongE
  rw [if_neg (by simpa using h1), if_neg (by omega), if_neg (by simp [notCoin, h3, h4])]
theorem Offs.nil0 (w : World) : Offs w (fun _ => True) (.slice none 0 0) [] := ⟨⟨rfl, none, 0, rfl, Nat.le_refl _, Nat.zero_le _, fun h => absurd h (by simp)⟩, fun o ho => by cases ho⟩

set_option maxRecDepth 100000 in
set_option maxHeartbeats 12800000 in
theorem truthPays_walk (n : Int) (bs : List (List Off)) (buyer r : Int) (tr : List Off) (ts : List (List Off)) (v vt vs : Value) (R Rt Rs : Nat → Prop) (floor : Int) (l : List Sec) (b worth other : Int) (vl : Value) (R2 : Nat → Prop) (w : World) (hl : Buys w R v bs) (ht : Offs w Rt vt tr) (hs : Buys w Rs vs ts) (hq : Secs w R2 vl l)
    (hbl : bs.length ≤ 1048576) (htl : ts.length ≤ 1048576) (hb : -9223372036854775808 ≤ buyer ∧ buyer ≤ 9223372036854775807) (hfb : -9223372036854775808 ≤ floor ∧ floor ≤ 9223372036854775807) (hbb : -9223372036854775808 ≤ b ∧ b ≤ 9223372036854775807) (hwb : -9223372036854775808 ≤ worth ∧ worth ≤ 9223372036854775807) (hob : -9223372036854775808 ≤ other ∧ other ≤ 9223372036854775807) :
    Calls Try.prog 12 #[.agg #[.int .i64 n, v, .int .i64 buyer, .int .i64 r, vt, vs], .agg #[.int .i64 floor, vl, .int .i64 b, .int .i64 worth, .int .i64 other]] w fun e w' => e = .returned (.bool true) ∧ Below w.heap.size w w' := by
  obtain ⟨_, ⟨_, Axb, cxb, rfl, _⟩, _⟩ := id hl
  obtain ⟨_, ⟨_, Axs, cxs, rfl, _⟩, _⟩ := id hs
  obtain ⟨⟨_, Axt, cxt, rfl, _⟩, _⟩ := id ht
  obtain ⟨⟨_, Al, cl, rfl, _⟩, _⟩ := id hq
  have HBX := Lib.hid hl
  have HSX := Lib.hid hs
  have HTX := Lib.hid ht
  have HQ := Lib.hid hq
  clear hl ht hs hq
  obtain ⟨gB, hgB⟩ : ∃ b, b = great29 tr bs ts := ⟨_, rfl⟩
  have HGB := Lib.hid hgB
  clear hgB
  go_enter Try.func12, Try.ntmps12
  go_wp2_with fail
  obtain ⟨W0, hW0⟩ : ∃ V, V = (w.alloc (.cells #[.int .i64 n, .slice Axb bs.length cxb, .int .i64 buyer, .int .i64 r, .slice Axt tr.length cxt, .slice Axs ts.length cxs] 115)).alloc (.cells #[.int .i64 floor, .slice Al l.length cl, .int .i64 b, .int .i64 worth, .int .i64 other] 118) := ⟨_, rfl⟩
  have HX := Lib.hid (show Blk W0 w.heap.size 115 #[.int .i64 n, .slice Axb bs.length cxb, .int .i64 buyer, .int .i64 r, .slice Axt tr.length cxt, .slice Axs ts.length cxs] from by rw [hW0]; exact (Blk.new w _ _).alloc _)
  have HS := Lib.hid (show Blk W0 (w.heap.size + 1) 118 #[.int .i64 floor, .slice Al l.length cl, .int .i64 b, .int .i64 worth, .int .i64 other] from by rw [hW0]; exact Blk.new' _ _ (by simp))
  have HBW := Lib.hid (show Below w.heap.size w W0 from by rw [hW0]; exact ((Below.refl _ _).alloc (Nat.le_refl _) _).alloc (by simp) _)
  rw [← hW0]
  clear hW0
  refine (great29_any n bs buyer r tr ts _ _ _ R Rt Rs W0 (HBX.out.grow HBW.out) (HTX.out.grow HBW.out) (HSX.out.grow HBW.out) hbl htl).mono ?_
  rintro e w1 ⟨rfl, hb1⟩
  rw [← HGB.out]
  have HK1 := Lib.hid hb1
  clear hb1
  cases gB with
  | true =>
    go_wp2_with fail
    refine (works29_any w1).mono ?_
    rintro e wf ⟨rfl, hbf⟩
    have HBF := Lib.hid ((HBW.out.trans (HK1.out.mono HBW.out.size)).trans (hbf.mono (HBW.out.trans (HK1.out.mono HBW.out.size)).size))
    clear hbf
    go_wp2_with fail
    go_ret
    exact ⟨rfl, HBF.out⟩
  | false =>
    obtain ⟨htr, hb40, ht40, hbl40, htl40⟩ := great29_no HGB.out.symm
    clear hb40 ht40
    have hs := HS.out.grow HK1.out
    have s0 : w1.cell? ⟨w.heap.size + 1, 0, none⟩ = some (.int .i64 floor) := hs.cell 0
    have s1 : w1.cell? ⟨w.heap.size + 1, 1, none⟩ = some (.slice Al l.length cl) := hs.cell 1
    have s2 : w1.cell? ⟨w.heap.size + 1, 2, none⟩ = some (.int .i64 b) := hs.cell 2
    have s3 : w1.cell? ⟨w.heap.size + 1, 3, none⟩ = some (.int .i64 worth) := hs.cell 3
    have s4 : w1.cell? ⟨w.heap.size + 1, 4, none⟩ = some (.int .i64 other) := hs.cell 4
    clear hs
    by_cases h60 : 60 < l.length
    · have h60i : (60 : Int) < (l.length : Int) := by omega
      go_wp2_with fail
      refine (works29_any w1).mono ?_
      rintro e wf ⟨rfl, hbf⟩
      have HBF := Lib.hid ((HBW.out.trans (HK1.out.mono HBW.out.size)).trans (hbf.mono (HBW.out.trans (HK1.out.mono HBW.out.size)).size))
      clear hbf
      go_wp2_with fail
      go_ret
      exact ⟨rfl, HBF.out⟩
    have h60i : ¬ (60 : Int) < (l.length : Int) := by omega
    go_wp2_with fail
    obtain ⟨z, hz⟩ : ∃ z, z = wrongE floor l b [worth, other] := ⟨_, rfl⟩
    have hzb := wrongE_bd floor l b [worth, other]
    obtain ⟨a, ob, hst, hsz⟩ := sealedT_form floor l b worth other
    rw [← hz] at hst hsz hzb
    have HZ := Lib.hid hz
    have HST := Lib.hid hst
    have HSZ := Lib.hid hsz
    have hzn : 0 ≤ z ∧ z ≤ 1000 := by omega
    clear hz hst hsz hzb
    refine (sealed_any floor l b worth other _ R2 w1 (HQ.out.grow (HBW.out.trans (HK1.out.mono HBW.out.size))) (by omega) hbb hwb hob).mono ?_
    rintro e w2 ⟨rfl, hb2⟩
    rw [HST.out]
    have HK2 := Lib.hid (HK1.out.trans (hb2.mono HK1.out.size))
    clear hb2
    clear s0 s1 s2 s3 s4
    have hs := HS.out.grow HK2.out
    have s0 : w2.cell? ⟨w.heap.size + 1, 0, none⟩ = some (.int .i64 floor) := hs.cell 0
    have s1 : w2.cell? ⟨w.heap.size + 1, 1, none⟩ = some (.slice Al l.length cl) := hs.cell 1
    have s2 : w2.cell? ⟨w.heap.size + 1, 2, none⟩ = some (.int .i64 b) := hs.cell 2
    have s3 : w2.cell? ⟨w.heap.size + 1, 3, none⟩ = some (.int .i64 worth) := hs.cell 3
    have s4 : w2.cell? ⟨w.heap.size + 1, 4, none⟩ = some (.int .i64 other) := hs.cell 4
    clear hs
    go_wp2_with fail
    refine (truthLeast_any floor l b worth _ R2 w2 (HQ.out.grow (HBW.out.trans (HK2.out.mono HBW.out.size))) (by omega) hfb hbb hwb).mono ?_
    rintro e w3 ⟨L, Bz, rfl, hB, hb3⟩
    obtain ⟨z2, hz2⟩ : ∃ z, z = wrongE floor l b [worth] := ⟨_, rfl⟩
    have hz2b := wrongE_bd floor l b [worth]
    rw [← hz2] at hB hz2b
    have HZ2 := Lib.hid hz2
    have HB2 := Lib.hid hB
    have HK3 := Lib.hid (HK2.out.trans (hb3.mono HK2.out.size))
    clear hb3
    rw [← hz2]
    have hz2n : 0 ≤ z2 ∧ z2 ≤ 1000 := by omega
    clear s0 s1 s2 s3 s4 hB hz2 hz2b
    by_cases h0 : z = 0
    · obtain ⟨k1, k2, k3, k4⟩ := wrongE_two (HZ.out.symm.trans h0)
      obtain ⟨rfl, rfl⟩ := HSZ.out h0
      obtain rfl : z2 = 0 := by rw [HZ2.out]; exact wrongE_one k1 k2 k3
      obtain rfl : Bz = gainsW floor l b worth worth := HB2.out rfl
      subst h0
      have g1 := (truth_best k1 k2 k3 k4).1
      have g2 := (truth_best k1 k2 k3 k3).2
      obtain ⟨ga, hga⟩ : ∃ z, z = gainsW floor l b worth worth := ⟨_, rfl⟩
      obtain ⟨gb, hgb⟩ : ∃ z, z = gainsW floor l b worth other := ⟨_, rfl⟩
      rw [← hga, ← hgb] at g1
      rw [← hga] at g2
      rw [← hga, ← hgb]
      have g3 : ¬ ga < gb := by omega
      have g4 : ¬ ga < 0 := by omega
      clear hga hgb k1 k2 k3 k4 g1 g2 hzn hz2n
      go_wp2_with fail
      refine (num29_any 0 (by omega) (by omega) w3).mono ?_
      rintro e _ ⟨rfl, rfl⟩
      go_wp2_with fail
      refine (num29_any 0 (by omega) (by omega) w3).mono ?_
      rintro e _ ⟨rfl, rfl⟩
      go_wp2_with fail
      refine (num29_any 0 (by omega) (by omega) w3).mono ?_
      rintro e _ ⟨rfl, rfl⟩
      have hx := HX.out.grow HK3.out
      have x0 : w3.cell? ⟨w.heap.size, 0, none⟩ = some (.int .i64 n) := hx.cell 0
      have x1 : w3.cell? ⟨w.heap.size, 1, none⟩ = some (.slice Axb bs.length cxb) := hx.cell 1
      have x2 : w3.cell? ⟨w.heap.size, 2, none⟩ = some (.int .i64 buyer) := hx.cell 2
      have x4 : w3.cell? ⟨w.heap.size, 4, none⟩ = some (.slice Axt tr.length cxt) := hx.cell 4
      have x5 : w3.cell? ⟨w.heap.size, 5, none⟩ = some (.slice Axs ts.length cxs) := hx.cell 5
      clear hx
      go_wp2_with fail
      refine (regret_any n bs buyer 1 tr ts _ _ _ R Rt Rs w3 (HBX.out.grow (HBW.out.trans (HK3.out.mono HBW.out.size))) (HTX.out.grow (HBW.out.trans (HK3.out.mono HBW.out.size))) (HSX.out.grow (HBW.out.trans (HK3.out.mono HBW.out.size))) (by omega) hb (by omega)).mono ?_
      rintro e w4 ⟨rfl, hb4⟩
      have HK4 := Lib.hid (HK3.out.trans (hb4.mono HK3.out.size))
      clear hb4
      have hsm := askedE_sm n bs buyer 1 (tr :: ts)
      obtain ⟨z3, hz3⟩ : ∃ z, z = askedE n bs buyer 1 (tr :: ts) := ⟨_, rfl⟩
      have HZ3 := Lib.hid hz3
      obtain ⟨ra, rb, hrv⟩ := regretV_form n bs buyer 1 tr ts
      rw [← hz3] at hsm hrv
      by_cases h3 : z3 = 0
      · obtain ⟨q, hq⟩ : ∃ q : Nat, buyer = (q : Int) := by
          obtain ⟨_, a2, _⟩ := askedE_zero (hz3.symm.trans h3)
          exact ⟨buyer.toNat, by omega⟩
        subst hq
        obtain ⟨hreg, co, ce, hp1, hp2, hco, hcc⟩ := pays_law (HZ3.out.symm.trans h3) HBX.out.wf HTX.out.2 HSX.out.wf
        have HP1 := Lib.hid hp1
        have HP2 := Lib.hid hp2
        have hcco : co ≤ ce := hcc
        rw [hreg]
        clear x0 x1 x2 x4 x5 hsm hz3 hrv hreg hp1 hp2 h3
        have hx := HX.out.grow HK4.out
        have x0 : w4.cell? ⟨w.heap.size, 0, none⟩ = some (.int .i64 n) := hx.cell 0
        have x1 : w4.cell? ⟨w.heap.size, 1, none⟩ = some (.slice Axb bs.length cxb) := hx.cell 1
        have x2 : w4.cell? ⟨w.heap.size, 2, none⟩ = some (.int .i64 (q : Int)) := hx.cell 2
        have x4 : w4.cell? ⟨w.heap.size, 4, none⟩ = some (.slice Axt tr.length cxt) := hx.cell 4
        clear hx
        go_wp2_with fail
        refine (num29_any 0 (by omega) (by omega) w4).mono ?_
        rintro e _ ⟨rfl, rfl⟩
        go_wp2_with fail
        refine (package_any n bs (q : Int) 1 tr [] _ _ _ R Rt (fun _ => True) w4 (HBX.out.grow (HBW.out.trans (HK4.out.mono HBW.out.size))) (HTX.out.grow (HBW.out.trans (HK4.out.mono HBW.out.size))) (Offs.nil0 _) hb (by omega)).mono ?_
        rintro e w5 ⟨rfl, hb5⟩
        rw [HP1.out]
        have HK5 := Lib.hid (HK4.out.trans (hb5.mono HK4.out.size))
        clear hb5
        clear x0 x1 x2 x4
        have hx := HX.out.grow HK5.out
        have x0 : w5.cell? ⟨w.heap.size, 0, none⟩ = some (.int .i64 n) := hx.cell 0
        have x1 : w5.cell? ⟨w.heap.size, 1, none⟩ = some (.slice Axb bs.length cxb) := hx.cell 1
        have x2 : w5.cell? ⟨w.heap.size, 2, none⟩ = some (.int .i64 (q : Int)) := hx.cell 2
        have x4 : w5.cell? ⟨w.heap.size, 4, none⟩ = some (.slice Axt tr.length cxt) := hx.cell 4
        clear hx
        go_wp2_with fail
        refine (package_any n bs (q : Int) 2 tr [] _ _ _ R Rt (fun _ => True) w5 (HBX.out.grow (HBW.out.trans (HK5.out.mono HBW.out.size))) (HTX.out.grow (HBW.out.trans (HK5.out.mono HBW.out.size))) (Offs.nil0 _) hb (by omega)).mono ?_
        rintro e w6 ⟨rfl, hb6⟩
        rw [HP2.out]
        have HK6 := Lib.hid (HK5.out.trans (hb6.mono HK5.out.size))
        clear hb6
        clear x0 x1 x2 x4
        go_wp2_with fail
        refine (num29_any 0 (by omega) (by omega) w6).mono ?_
        rintro e _ ⟨rfl, rfl⟩
        go_wp2_with fail
        refine (num29_any 0 (by omega) (by omega) w6).mono ?_
        rintro e _ ⟨rfl, rfl⟩
        go_wp2_with fail
        refine (works29_any w6).mono ?_
        rintro e wf ⟨rfl, hbf⟩
        have HBF := Lib.hid ((HBW.out.trans (HK6.out.mono HBW.out.size)).trans (hbf.mono (HBW.out.trans (HK6.out.mono HBW.out.size)).size))
        clear hbf
        go_wp2_with fail
        go_ret
        exact ⟨rfl, HBF.out⟩
      · have h3b : (z3 != 0) = true := by simpa using h3
        rw [hrv]
        clear x0 x1 x2 x4 x5 hz3 hrv
        have hx := HX.out.grow HK4.out
        have x0 : w4.cell? ⟨w.heap.size, 0, none⟩ = some (.int .i64 n) := hx.cell 0
        have x1 : w4.cell? ⟨w.heap.size, 1, none⟩ = some (.slice Axb bs.length cxb) := hx.cell 1
        have x2 : w4.cell? ⟨w.heap.size, 2, none⟩ = some (.int .i64 buyer) := hx.cell 2
        have x4 : w4.cell? ⟨w.heap.size, 4, none⟩ = some (.slice Axt tr.length cxt) := hx.cell 4
        have x5 : w4.cell? ⟨w.heap.size, 5, none⟩ = some (.slice Axs ts.length cxs) := hx.cell 5
        clear hx
        go_wp2_with fail
        refine (num29_any z3 hsm.1 hsm.2 w4).mono ?_
        rintro e _ ⟨rfl, rfl⟩
        go_wp2_with fail
        refine (refWrong_any n bs buyer 1 tr ts _ _ _ R Rt Rs w4 (HBX.out.grow (HBW.out.trans (HK4.out.mono HBW.out.size))) (HTX.out.grow (HBW.out.trans (HK4.out.mono HBW.out.size))) (HSX.out.grow (HBW.out.trans (HK4.out.mono HBW.out.size))) (by omega) hb (by omega)).mono ?_
        rintro e w5 ⟨rfl, hb5⟩
        rw [← HZ3.out]
        have HK5 := Lib.hid (HK4.out.trans (hb5.mono HK4.out.size))
        clear hb5
        clear x0 x1 x2 x4 x5
        go_wp2_with fail
        refine (works29_any w5).mono ?_
        rintro e wf ⟨rfl, hbf⟩
        have HBF := Lib.hid ((HBW.out.trans (HK5.out.mono HBW.out.size)).trans (hbf.mono (HBW.out.trans (HK5.out.mono HBW.out.size)).size))
        clear hbf
        go_wp2_with fail
        go_ret
        exact ⟨rfl, HBF.out⟩
    · have h0b : (z != 0) = true := by simpa using h0
      have h0c : (z == 0) = false := by simpa using h0
      have hs := HS.out.grow HK3.out
      have s0 : w3.cell? ⟨w.heap.size + 1, 0, none⟩ = some (.int .i64 floor) := hs.cell 0
      have s1 : w3.cell? ⟨w.heap.size + 1, 1, none⟩ = some (.slice Al l.length cl) := hs.cell 1
      have s2 : w3.cell? ⟨w.heap.size + 1, 2, none⟩ = some (.int .i64 b) := hs.cell 2
      have s3 : w3.cell? ⟨w.heap.size + 1, 3, none⟩ = some (.int .i64 worth) := hs.cell 3
      have s4 : w3.cell? ⟨w.heap.size + 1, 4, none⟩ = some (.int .i64 other) := hs.cell 4
      clear hs
      go_wp2_with fail
      refine (num29_any z hzn.1 hzn.2 w3).mono ?_
      rintro e _ ⟨rfl, rfl⟩
      go_wp2_with fail
      refine (num29_any z hzn.1 hzn.2 w3).mono ?_
      rintro e _ ⟨rfl, rfl⟩
      go_wp2_with fail
      refine (refCheck11_any floor l _ R2 w3 (HQ.out.grow (HBW.out.trans (HK3.out.mono HBW.out.size))) (by omega)).mono ?_
      rintro e w4 ⟨rfl, hb4⟩
      have HK4 := Lib.hid (HK3.out.trans (hb4.mono HK3.out.size))
      clear hb4
      obtain ⟨se, hse⟩ : ∃ z, z = sellE floor l := ⟨_, rfl⟩
      rw [← hse]
      have HSE := Lib.hid hse
      clear s0 s1 s2 s3 s4 hse
      have hs := HS.out.grow HK4.out
      have s2 : w4.cell? ⟨w.heap.size + 1, 2, none⟩ = some (.int .i64 b) := hs.cell 2
      have s3 : w4.cell? ⟨w.heap.size + 1, 3, none⟩ = some (.int .i64 worth) := hs.cell 3
      have s4 : w4.cell? ⟨w.heap.size + 1, 4, none⟩ = some (.int .i64 other) := hs.cell 4
      clear hs
      by_cases hs0 : se = 0
      · subst hs0
        by_cases hb0 : 0 ≤ b
        · go_wp2_with fail
          refine (refAre_any worth w4).mono ?_
          rintro e _ ⟨rfl, rfl⟩
          obtain ⟨c1, hc1⟩ : ∃ z, z = coinB worth := ⟨_, rfl⟩
          rw [← hc1]
          have HC1 := Lib.hid hc1
          clear hc1
          cases c1 with
          | true =>
            go_wp2_with fail
            refine (refAre_any other w4).mono ?_
            rintro e _ ⟨rfl, rfl⟩
            obtain ⟨c2, hc2⟩ : ∃ z, z = coinB other := ⟨_, rfl⟩
            rw [← hc2]
            have HC2 := Lib.hid hc2
            clear hc2
            cases c2 with
            | true => exact absurd (HZ.out.trans (wrongE_four HSE.out.symm hb0 HC1.out.symm HC2.out.symm)) h0
            | false =>
              clear s2 s3 s4 h0 h0b h0c
              have hx := HX.out.grow HK4.out
              have x0 : w4.cell? ⟨w.heap.size, 0, none⟩ = some (.int .i64 n) := hx.cell 0
              have x1 : w4.cell? ⟨w.heap.size, 1, none⟩ = some (.slice Axb bs.length cxb) := hx.cell 1
              have x2 : w4.cell? ⟨w.heap.size, 2, none⟩ = some (.int .i64 buyer) := hx.cell 2
              have x4 : w4.cell? ⟨w.heap.size, 4, none⟩ = some (.slice Axt tr.length cxt) := hx.cell 4
              have x5 : w4.cell? ⟨w.heap.size, 5, none⟩ = some (.slice Axs ts.length cxs) := hx.cell 5
              clear hx
              go_wp2_with fail
              refine (regret_any n bs buyer 1 tr ts _ _ _ R Rt Rs w4 (HBX.out.grow (HBW.out.trans (HK4.out.mono HBW.out.size))) (HTX.out.grow (HBW.out.trans (HK4.out.mono HBW.out.size))) (HSX.out.grow (HBW.out.trans (HK4.out.mono HBW.out.size))) (by omega) hb (by omega)).mono ?_
              rintro e w5 ⟨rfl, hb5⟩
              have HK5 := Lib.hid (HK4.out.trans (hb5.mono HK4.out.size))
              clear hb5
              have hsm := askedE_sm n bs buyer 1 (tr :: ts)
              obtain ⟨z3, hz3⟩ : ∃ z, z = askedE n bs buyer 1 (tr :: ts) := ⟨_, rfl⟩
              have HZ3 := Lib.hid hz3
              obtain ⟨ra, rb, hrv⟩ := regretV_form n bs buyer 1 tr ts
              rw [← hz3] at hsm hrv
              by_cases h3 : z3 = 0
              · obtain ⟨q, hq⟩ : ∃ q : Nat, buyer = (q : Int) := by
                  obtain ⟨_, a2, _⟩ := askedE_zero (hz3.symm.trans h3)
                  exact ⟨buyer.toNat, by omega⟩
                subst hq
                obtain ⟨hreg, co, ce, hp1, hp2, hco, hcc⟩ := pays_law (HZ3.out.symm.trans h3) HBX.out.wf HTX.out.2 HSX.out.wf
                have HP1 := Lib.hid hp1
                have HP2 := Lib.hid hp2
                have hcco : co ≤ ce := hcc
                rw [hreg]
                clear x0 x1 x2 x4 x5 hsm hz3 hrv hreg hp1 hp2 h3
                have hx := HX.out.grow HK5.out
                have x0 : w5.cell? ⟨w.heap.size, 0, none⟩ = some (.int .i64 n) := hx.cell 0
                have x1 : w5.cell? ⟨w.heap.size, 1, none⟩ = some (.slice Axb bs.length cxb) := hx.cell 1
                have x2 : w5.cell? ⟨w.heap.size, 2, none⟩ = some (.int .i64 (q : Int)) := hx.cell 2
                have x4 : w5.cell? ⟨w.heap.size, 4, none⟩ = some (.slice Axt tr.length cxt) := hx.cell 4
                clear hx
                go_wp2_with fail
                refine (num29_any 0 (by omega) (by omega) w5).mono ?_
                rintro e _ ⟨rfl, rfl⟩
                go_wp2_with fail
                refine (package_any n bs (q : Int) 1 tr [] _ _ _ R Rt (fun _ => True) w5 (HBX.out.grow (HBW.out.trans (HK5.out.mono HBW.out.size))) (HTX.out.grow (HBW.out.trans (HK5.out.mono HBW.out.size))) (Offs.nil0 _) hb (by omega)).mono ?_
                rintro e w6 ⟨rfl, hb6⟩
                rw [HP1.out]
                have HK6 := Lib.hid (HK5.out.trans (hb6.mono HK5.out.size))
                clear hb6
                clear x0 x1 x2 x4
                have hx := HX.out.grow HK6.out
                have x0 : w6.cell? ⟨w.heap.size, 0, none⟩ = some (.int .i64 n) := hx.cell 0
                have x1 : w6.cell? ⟨w.heap.size, 1, none⟩ = some (.slice Axb bs.length cxb) := hx.cell 1
                have x2 : w6.cell? ⟨w.heap.size, 2, none⟩ = some (.int .i64 (q : Int)) := hx.cell 2
                have x4 : w6.cell? ⟨w.heap.size, 4, none⟩ = some (.slice Axt tr.length cxt) := hx.cell 4
                clear hx
                go_wp2_with fail
                refine (package_any n bs (q : Int) 2 tr [] _ _ _ R Rt (fun _ => True) w6 (HBX.out.grow (HBW.out.trans (HK6.out.mono HBW.out.size))) (HTX.out.grow (HBW.out.trans (HK6.out.mono HBW.out.size))) (Offs.nil0 _) hb (by omega)).mono ?_
                rintro e w7 ⟨rfl, hb7⟩
                rw [HP2.out]
                have HK7 := Lib.hid (HK6.out.trans (hb7.mono HK6.out.size))
                clear hb7
                clear x0 x1 x2 x4
                go_wp2_with fail
                refine (num29_any 0 (by omega) (by omega) w7).mono ?_
                rintro e _ ⟨rfl, rfl⟩
                go_wp2_with fail
                refine (num29_any 0 (by omega) (by omega) w7).mono ?_
                rintro e _ ⟨rfl, rfl⟩
                go_wp2_with fail
                refine (works29_any w7).mono ?_
                rintro e wf ⟨rfl, hbf⟩
                have HBF := Lib.hid ((HBW.out.trans (HK7.out.mono HBW.out.size)).trans (hbf.mono (HBW.out.trans (HK7.out.mono HBW.out.size)).size))
                clear hbf
                go_wp2_with fail
                go_ret
                exact ⟨rfl, HBF.out⟩
              · have h3b : (z3 != 0) = true := by simpa using h3
                rw [hrv]
                clear x0 x1 x2 x4 x5 hz3 hrv
                have hx := HX.out.grow HK5.out
                have x0 : w5.cell? ⟨w.heap.size, 0, none⟩ = some (.int .i64 n) := hx.cell 0
                have x1 : w5.cell? ⟨w.heap.size, 1, none⟩ = some (.slice Axb bs.length cxb) := hx.cell 1
                have x2 : w5.cell? ⟨w.heap.size, 2, none⟩ = some (.int .i64 buyer) := hx.cell 2
                have x4 : w5.cell? ⟨w.heap.size, 4, none⟩ = some (.slice Axt tr.length cxt) := hx.cell 4
                have x5 : w5.cell? ⟨w.heap.size, 5, none⟩ = some (.slice Axs ts.length cxs) := hx.cell 5
                clear hx
                go_wp2_with fail
                refine (num29_any z3 hsm.1 hsm.2 w5).mono ?_
                rintro e _ ⟨rfl, rfl⟩
                go_wp2_with fail
                refine (refWrong_any n bs buyer 1 tr ts _ _ _ R Rt Rs w5 (HBX.out.grow (HBW.out.trans (HK5.out.mono HBW.out.size))) (HTX.out.grow (HBW.out.trans (HK5.out.mono HBW.out.size))) (HSX.out.grow (HBW.out.trans (HK5.out.mono HBW.out.size))) (by omega) hb (by omega)).mono ?_
                rintro e w6 ⟨rfl, hb6⟩
                rw [← HZ3.out]
                have HK6 := Lib.hid (HK5.out.trans (hb6.mono HK5.out.size))
                clear hb6
                clear x0 x1 x2 x4 x5
                go_wp2_with fail
                refine (works29_any w6).mono ?_
                rintro e wf ⟨rfl, hbf⟩
                have HBF := Lib.hid ((HBW.out.trans (HK6.out.mono HBW.out.size)).trans (hbf.mono (HBW.out.trans (HK6.out.mono HBW.out.size)).size))
                clear hbf
                go_wp2_with fail
                go_ret
                exact ⟨rfl, HBF.out⟩
          | false =>
            clear s2 s3 s4 h0 h0b h0c
            have hx := HX.out.grow HK4.out
            have x0 : w4.cell? ⟨w.heap.size, 0, none⟩ = some (.int .i64 n) := hx.cell 0
            have x1 : w4.cell? ⟨w.heap.size, 1, none⟩ = some (.slice Axb bs.length cxb) := hx.cell 1
            have x2 : w4.cell? ⟨w.heap.size, 2, none⟩ = some (.int .i64 buyer) := hx.cell 2
            have x4 : w4.cell? ⟨w.heap.size, 4, none⟩ = some (.slice Axt tr.length cxt) := hx.cell 4
            have x5 : w4.cell? ⟨w.heap.size, 5, none⟩ = some (.slice Axs ts.length cxs) := hx.cell 5
            clear hx
            go_wp2_with fail
            refine (regret_any n bs buyer 1 tr ts _ _ _ R Rt Rs w4 (HBX.out.grow (HBW.out.trans (HK4.out.mono HBW.out.size))) (HTX.out.grow (HBW.out.trans (HK4.out.mono HBW.out.size))) (HSX.out.grow (HBW.out.trans (HK4.out.mono HBW.out.size))) (by omega) hb (by omega)).mono ?_
            rintro e w5 ⟨rfl, hb5⟩
            have HK5 := Lib.hid (HK4.out.trans (hb5.mono HK4.out.size))
            clear hb5
            have hsm := askedE_sm n bs buyer 1 (tr :: ts)
            obtain ⟨z3, hz3⟩ : ∃ z, z = askedE n bs buyer 1 (tr :: ts) := ⟨_, rfl⟩
            have HZ3 := Lib.hid hz3
            obtain ⟨ra, rb, hrv⟩ := regretV_form n bs buyer 1 tr ts
            rw [← hz3] at hsm hrv
            by_cases h3 : z3 = 0
            · obtain ⟨q, hq⟩ : ∃ q : Nat, buyer = (q : Int) := by
                obtain ⟨_, a2, _⟩ := askedE_zero (hz3.symm.trans h3)
                exact ⟨buyer.toNat, by omega⟩
              subst hq
              obtain ⟨hreg, co, ce, hp1, hp2, hco, hcc⟩ := pays_law (HZ3.out.symm.trans h3) HBX.out.wf HTX.out.2 HSX.out.wf
              have HP1 := Lib.hid hp1
              have HP2 := Lib.hid hp2
              have hcco : co ≤ ce := hcc
              rw [hreg]
              clear x0 x1 x2 x4 x5 hsm hz3 hrv hreg hp1 hp2 h3
              have hx := HX.out.grow HK5.out
              have x0 : w5.cell? ⟨w.heap.size, 0, none⟩ = some (.int .i64 n) := hx.cell 0
              have x1 : w5.cell? ⟨w.heap.size, 1, none⟩ = some (.slice Axb bs.length cxb) := hx.cell 1
              have x2 : w5.cell? ⟨w.heap.size, 2, none⟩ = some (.int .i64 (q : Int)) := hx.cell 2
              have x4 : w5.cell? ⟨w.heap.size, 4, none⟩ = some (.slice Axt tr.length cxt) := hx.cell 4
              clear hx
              go_wp2_with fail
              refine (num29_any 0 (by omega) (by omega) w5).mono ?_
              rintro e _ ⟨rfl, rfl⟩
              go_wp2_with fail
              refine (package_any n bs (q : Int) 1 tr [] _ _ _ R Rt (fun _ => True) w5 (HBX.out.grow (HBW.out.trans (HK5.out.mono HBW.out.size))) (HTX.out.grow (HBW.out.trans (HK5.out.mono HBW.out.size))) (Offs.nil0 _) hb (by omega)).mono ?_
              rintro e w6 ⟨rfl, hb6⟩
              rw [HP1.out]
              have HK6 := Lib.hid (HK5.out.trans (hb6.mono HK5.out.size))
              clear hb6
              clear x0 x1 x2 x4
              have hx := HX.out.grow HK6.out
              have x0 : w6.cell? ⟨w.heap.size, 0, none⟩ = some (.int .i64 n) := hx.cell 0
              have x1 : w6.cell? ⟨w.heap.size, 1, none⟩ = some (.slice Axb bs.length cxb) := hx.cell 1
              have x2 : w6.cell? ⟨w.heap.size, 2, none⟩ = some (.int .i64 (q : Int)) := hx.cell 2
              have x4 : w6.cell? ⟨w.heap.size, 4, none⟩ = some (.slice Axt tr.length cxt) := hx.cell 4
              clear hx
              go_wp2_with fail
              refine (package_any n bs (q : Int) 2 tr [] _ _ _ R Rt (fun _ => True) w6 (HBX.out.grow (HBW.out.trans (HK6.out.mono HBW.out.size))) (HTX.out.grow (HBW.out.trans (HK6.out.mono HBW.out.size))) (Offs.nil0 _) hb (by omega)).mono ?_
              rintro e w7 ⟨rfl, hb7⟩
              rw [HP2.out]
              have HK7 := Lib.hid (HK6.out.trans (hb7.mono HK6.out.size))
              clear hb7
              clear x0 x1 x2 x4
              go_wp2_with fail
              refine (num29_any 0 (by omega) (by omega) w7).mono ?_
              rintro e _ ⟨rfl, rfl⟩
              go_wp2_with fail
              refine (num29_any 0 (by omega) (by omega) w7).mono ?_
              rintro e _ ⟨rfl, rfl⟩
              go_wp2_with fail
              refine (works29_any w7).mono ?_
              rintro e wf ⟨rfl, hbf⟩
              have HBF := Lib.hid ((HBW.out.trans (HK7.out.mono HBW.out.size)).trans (hbf.mono (HBW.out.trans (HK7.out.mono HBW.out.size)).size))
              clear hbf
              go_wp2_with fail
              go_ret
              exact ⟨rfl, HBF.out⟩
            · have h3b : (z3 != 0) = true := by simpa using h3
              rw [hrv]
              clear x0 x1 x2 x4 x5 hz3 hrv
              have hx := HX.out.grow HK5.out
              have x0 : w5.cell? ⟨w.heap.size, 0, none⟩ = some (.int .i64 n) := hx.cell 0
              have x1 : w5.cell? ⟨w.heap.size, 1, none⟩ = some (.slice Axb bs.length cxb) := hx.cell 1
              have x2 : w5.cell? ⟨w.heap.size, 2, none⟩ = some (.int .i64 buyer) := hx.cell 2
              have x4 : w5.cell? ⟨w.heap.size, 4, none⟩ = some (.slice Axt tr.length cxt) := hx.cell 4
              have x5 : w5.cell? ⟨w.heap.size, 5, none⟩ = some (.slice Axs ts.length cxs) := hx.cell 5
              clear hx
              go_wp2_with fail
              refine (num29_any z3 hsm.1 hsm.2 w5).mono ?_
              rintro e _ ⟨rfl, rfl⟩
              go_wp2_with fail
              refine (refWrong_any n bs buyer 1 tr ts _ _ _ R Rt Rs w5 (HBX.out.grow (HBW.out.trans (HK5.out.mono HBW.out.size))) (HTX.out.grow (HBW.out.trans (HK5.out.mono HBW.out.size))) (HSX.out.grow (HBW.out.trans (HK5.out.mono HBW.out.size))) (by omega) hb (by omega)).mono ?_
              rintro e w6 ⟨rfl, hb6⟩
              rw [← HZ3.out]
              have HK6 := Lib.hid (HK5.out.trans (hb6.mono HK5.out.size))
              clear hb6
              clear x0 x1 x2 x4 x5
              go_wp2_with fail
              refine (works29_any w6).mono ?_
              rintro e wf ⟨rfl, hbf⟩
              have HBF := Lib.hid ((HBW.out.trans (HK6.out.mono HBW.out.size)).trans (hbf.mono (HBW.out.trans (HK6.out.mono HBW.out.size)).size))
              clear hbf
              go_wp2_with fail
              go_ret
              exact ⟨rfl, HBF.out⟩
        · clear h0 h0b h0c s3 s4
          have hx := HX.out.grow HK4.out
          have x0 : w4.cell? ⟨w.heap.size, 0, none⟩ = some (.int .i64 n) := hx.cell 0
          have x1 : w4.cell? ⟨w.heap.size, 1, none⟩ = some (.slice Axb bs.length cxb) := hx.cell 1
          have x2 : w4.cell? ⟨w.heap.size, 2, none⟩ = some (.int .i64 buyer) := hx.cell 2
          have x4 : w4.cell? ⟨w.heap.size, 4, none⟩ = some (.slice Axt tr.length cxt) := hx.cell 4
          have x5 : w4.cell? ⟨w.heap.size, 5, none⟩ = some (.slice Axs ts.length cxs) := hx.cell 5
          clear hx
          go_wp2_with fail
          refine (regret_any n bs buyer 1 tr ts _ _ _ R Rt Rs w4 (HBX.out.grow (HBW.out.trans (HK4.out.mono HBW.out.size))) (HTX.out.grow (HBW.out.trans (HK4.out.mono HBW.out.size))) (HSX.out.grow (HBW.out.trans (HK4.out.mono HBW.out.size))) (by omega) hb (by omega)).mono ?_
          rintro e w5 ⟨rfl, hb5⟩
          have HK5 := Lib.hid (HK4.out.trans (hb5.mono HK4.out.size))
          clear hb5
          have hsm := askedE_sm n bs buyer 1 (tr :: ts)
          obtain ⟨z3, hz3⟩ : ∃ z, z = askedE n bs buyer 1 (tr :: ts) := ⟨_, rfl⟩
          have HZ3 := Lib.hid hz3
          obtain ⟨ra, rb, hrv⟩ := regretV_form n bs buyer 1 tr ts
          rw [← hz3] at hsm hrv
          by_cases h3 : z3 = 0
          · obtain ⟨q, hq⟩ : ∃ q : Nat, buyer = (q : Int) := by
              obtain ⟨_, a2, _⟩ := askedE_zero (hz3.symm.trans h3)
              exact ⟨buyer.toNat, by omega⟩
            subst hq
            obtain ⟨hreg, co, ce, hp1, hp2, hco, hcc⟩ := pays_law (HZ3.out.symm.trans h3) HBX.out.wf HTX.out.2 HSX.out.wf
            have HP1 := Lib.hid hp1
            have HP2 := Lib.hid hp2
            have hcco : co ≤ ce := hcc
            rw [hreg]
            clear x0 x1 x2 x4 x5 hsm hz3 hrv hreg hp1 hp2 h3
            have hx := HX.out.grow HK5.out
            have x0 : w5.cell? ⟨w.heap.size, 0, none⟩ = some (.int .i64 n) := hx.cell 0
            have x1 : w5.cell? ⟨w.heap.size, 1, none⟩ = some (.slice Axb bs.length cxb) := hx.cell 1
            have x2 : w5.cell? ⟨w.heap.size, 2, none⟩ = some (.int .i64 (q : Int)) := hx.cell 2
            have x4 : w5.cell? ⟨w.heap.size, 4, none⟩ = some (.slice Axt tr.length cxt) := hx.cell 4
            clear hx
            go_wp2_with fail
            refine (num29_any 0 (by omega) (by omega) w5).mono ?_
            rintro e _ ⟨rfl, rfl⟩
            go_wp2_with fail
            refine (package_any n bs (q : Int) 1 tr [] _ _ _ R Rt (fun _ => True) w5 (HBX.out.grow (HBW.out.trans (HK5.out.mono HBW.out.size))) (HTX.out.grow (HBW.out.trans (HK5.out.mono HBW.out.size))) (Offs.nil0 _) hb (by omega)).mono ?_
            rintro e w6 ⟨rfl, hb6⟩
            rw [HP1.out]
            have HK6 := Lib.hid (HK5.out.trans (hb6.mono HK5.out.size))
            clear hb6
            clear x0 x1 x2 x4
            have hx := HX.out.grow HK6.out
            have x0 : w6.cell? ⟨w.heap.size, 0, none⟩ = some (.int .i64 n) := hx.cell 0
            have x1 : w6.cell? ⟨w.heap.size, 1, none⟩ = some (.slice Axb bs.length cxb) := hx.cell 1
            have x2 : w6.cell? ⟨w.heap.size, 2, none⟩ = some (.int .i64 (q : Int)) := hx.cell 2
            have x4 : w6.cell? ⟨w.heap.size, 4, none⟩ = some (.slice Axt tr.length cxt) := hx.cell 4
            clear hx
            go_wp2_with fail
            refine (package_any n bs (q : Int) 2 tr [] _ _ _ R Rt (fun _ => True) w6 (HBX.out.grow (HBW.out.trans (HK6.out.mono HBW.out.size))) (HTX.out.grow (HBW.out.trans (HK6.out.mono HBW.out.size))) (Offs.nil0 _) hb (by omega)).mono ?_
            rintro e w7 ⟨rfl, hb7⟩
            rw [HP2.out]
            have HK7 := Lib.hid (HK6.out.trans (hb7.mono HK6.out.size))
            clear hb7
            clear x0 x1 x2 x4
            go_wp2_with fail
            refine (num29_any 0 (by omega) (by omega) w7).mono ?_
            rintro e _ ⟨rfl, rfl⟩
            go_wp2_with fail
            refine (num29_any 0 (by omega) (by omega) w7).mono ?_
            rintro e _ ⟨rfl, rfl⟩
            go_wp2_with fail
            refine (works29_any w7).mono ?_
            rintro e wf ⟨rfl, hbf⟩
            have HBF := Lib.hid ((HBW.out.trans (HK7.out.mono HBW.out.size)).trans (hbf.mono (HBW.out.trans (HK7.out.mono HBW.out.size)).size))
            clear hbf
            go_wp2_with fail
            go_ret
            exact ⟨rfl, HBF.out⟩
          · have h3b : (z3 != 0) = true := by simpa using h3
            rw [hrv]
            clear x0 x1 x2 x4 x5 hz3 hrv
            have hx := HX.out.grow HK5.out
            have x0 : w5.cell? ⟨w.heap.size, 0, none⟩ = some (.int .i64 n) := hx.cell 0
            have x1 : w5.cell? ⟨w.heap.size, 1, none⟩ = some (.slice Axb bs.length cxb) := hx.cell 1
            have x2 : w5.cell? ⟨w.heap.size, 2, none⟩ = some (.int .i64 buyer) := hx.cell 2
            have x4 : w5.cell? ⟨w.heap.size, 4, none⟩ = some (.slice Axt tr.length cxt) := hx.cell 4
            have x5 : w5.cell? ⟨w.heap.size, 5, none⟩ = some (.slice Axs ts.length cxs) := hx.cell 5
            clear hx
            go_wp2_with fail
            refine (num29_any z3 hsm.1 hsm.2 w5).mono ?_
            rintro e _ ⟨rfl, rfl⟩
            go_wp2_with fail
            refine (refWrong_any n bs buyer 1 tr ts _ _ _ R Rt Rs w5 (HBX.out.grow (HBW.out.trans (HK5.out.mono HBW.out.size))) (HTX.out.grow (HBW.out.trans (HK5.out.mono HBW.out.size))) (HSX.out.grow (HBW.out.trans (HK5.out.mono HBW.out.size))) (by omega) hb (by omega)).mono ?_
            rintro e w6 ⟨rfl, hb6⟩
            rw [← HZ3.out]
            have HK6 := Lib.hid (HK5.out.trans (hb6.mono HK5.out.size))
            clear hb6
            clear x0 x1 x2 x4 x5
            go_wp2_with fail
            refine (works29_any w6).mono ?_
            rintro e wf ⟨rfl, hbf⟩
            have HBF := Lib.hid ((HBW.out.trans (HK6.out.mono HBW.out.size)).trans (hbf.mono (HBW.out.trans (HK6.out.mono HBW.out.size)).size))
            clear hbf
            go_wp2_with fail
            go_ret
            exact ⟨rfl, HBF.out⟩
      · have hs0b : (se == 0) = false := by simpa using hs0
        clear h0 h0b h0c s2 s3 s4
        have hx := HX.out.grow HK4.out
        have x0 : w4.cell? ⟨w.heap.size, 0, none⟩ = some (.int .i64 n) := hx.cell 0
        have x1 : w4.cell? ⟨w.heap.size, 1, none⟩ = some (.slice Axb bs.length cxb) := hx.cell 1
        have x2 : w4.cell? ⟨w.heap.size, 2, none⟩ = some (.int .i64 buyer) := hx.cell 2
        have x4 : w4.cell? ⟨w.heap.size, 4, none⟩ = some (.slice Axt tr.length cxt) := hx.cell 4
        have x5 : w4.cell? ⟨w.heap.size, 5, none⟩ = some (.slice Axs ts.length cxs) := hx.cell 5
        clear hx
        go_wp2_with fail
        refine (regret_any n bs buyer 1 tr ts _ _ _ R Rt Rs w4 (HBX.out.grow (HBW.out.trans (HK4.out.mono HBW.out.size))) (HTX.out.grow (HBW.out.trans (HK4.out.mono HBW.out.size))) (HSX.out.grow (HBW.out.trans (HK4.out.mono HBW.out.size))) (by omega) hb (by omega)).mono ?_
        rintro e w5 ⟨rfl, hb5⟩
        have HK5 := Lib.hid (HK4.out.trans (hb5.mono HK4.out.size))
        clear hb5
        have hsm := askedE_sm n bs buyer 1 (tr :: ts)
        obtain ⟨z3, hz3⟩ : ∃ z, z = askedE n bs buyer 1 (tr :: ts) := ⟨_, rfl⟩
        have HZ3 := Lib.hid hz3
        obtain ⟨ra, rb, hrv⟩ := regretV_form n bs buyer 1 tr ts
        rw [← hz3] at hsm hrv
        by_cases h3 : z3 = 0
        · obtain ⟨q, hq⟩ : ∃ q : Nat, buyer = (q : Int) := by
            obtain ⟨_, a2, _⟩ := askedE_zero (hz3.symm.trans h3)
            exact ⟨buyer.toNat, by omega⟩
          subst hq
          obtain ⟨hreg, co, ce, hp1, hp2, hco, hcc⟩ := pays_law (HZ3.out.symm.trans h3) HBX.out.wf HTX.out.2 HSX.out.wf
          have HP1 := Lib.hid hp1
          have HP2 := Lib.hid hp2
          have hcco : co ≤ ce := hcc
          rw [hreg]
          clear x0 x1 x2 x4 x5 hsm hz3 hrv hreg hp1 hp2 h3
          have hx := HX.out.grow HK5.out
          have x0 : w5.cell? ⟨w.heap.size, 0, none⟩ = some (.int .i64 n) := hx.cell 0
          have x1 : w5.cell? ⟨w.heap.size, 1, none⟩ = some (.slice Axb bs.length cxb) := hx.cell 1
          have x2 : w5.cell? ⟨w.heap.size, 2, none⟩ = some (.int .i64 (q : Int)) := hx.cell 2
          have x4 : w5.cell? ⟨w.heap.size, 4, none⟩ = some (.slice Axt tr.length cxt) := hx.cell 4
          clear hx
          go_wp2_with fail
          refine (num29_any 0 (by omega) (by omega) w5).mono ?_
          rintro e _ ⟨rfl, rfl⟩
          go_wp2_with fail
          refine (package_any n bs (q : Int) 1 tr [] _ _ _ R Rt (fun _ => True) w5 (HBX.out.grow (HBW.out.trans (HK5.out.mono HBW.out.size))) (HTX.out.grow (HBW.out.trans (HK5.out.mono HBW.out.size))) (Offs.nil0 _) hb (by omega)).mono ?_
          rintro e w6 ⟨rfl, hb6⟩
          rw [HP1.out]
          have HK6 := Lib.hid (HK5.out.trans (hb6.mono HK5.out.size))
          clear hb6
          clear x0 x1 x2 x4
          have hx := HX.out.grow HK6.out
          have x0 : w6.cell? ⟨w.heap.size, 0, none⟩ = some (.int .i64 n) := hx.cell 0
          have x1 : w6.cell? ⟨w.heap.size, 1, none⟩ = some (.slice Axb bs.length cxb) := hx.cell 1
          have x2 : w6.cell? ⟨w.heap.size, 2, none⟩ = some (.int .i64 (q : Int)) := hx.cell 2
          have x4 : w6.cell? ⟨w.heap.size, 4, none⟩ = some (.slice Axt tr.length cxt) := hx.cell 4
          clear hx
          go_wp2_with fail
          refine (package_any n bs (q : Int) 2 tr [] _ _ _ R Rt (fun _ => True) w6 (HBX.out.grow (HBW.out.trans (HK6.out.mono HBW.out.size))) (HTX.out.grow (HBW.out.trans (HK6.out.mono HBW.out.size))) (Offs.nil0 _) hb (by omega)).mono ?_
          rintro e w7 ⟨rfl, hb7⟩
          rw [HP2.out]
          have HK7 := Lib.hid (HK6.out.trans (hb7.mono HK6.out.size))
          clear hb7
          clear x0 x1 x2 x4
          go_wp2_with fail
          refine (num29_any 0 (by omega) (by omega) w7).mono ?_
          rintro e _ ⟨rfl, rfl⟩
          go_wp2_with fail
          refine (num29_any 0 (by omega) (by omega) w7).mono ?_
          rintro e _ ⟨rfl, rfl⟩
          go_wp2_with fail
          refine (works29_any w7).mono ?_
          rintro e wf ⟨rfl, hbf⟩
          have HBF := Lib.hid ((HBW.out.trans (HK7.out.mono HBW.out.size)).trans (hbf.mono (HBW.out.trans (HK7.out.mono HBW.out.size)).size))
          clear hbf
          go_wp2_with fail
          go_ret
          exact ⟨rfl, HBF.out⟩
        · have h3b : (z3 != 0) = true := by simpa using h3
          rw [hrv]
          clear x0 x1 x2 x4 x5 hz3 hrv
          have hx := HX.out.grow HK5.out
          have x0 : w5.cell? ⟨w.heap.size, 0, none⟩ = some (.int .i64 n) := hx.cell 0
          have x1 : w5.cell? ⟨w.heap.size, 1, none⟩ = some (.slice Axb bs.length cxb) := hx.cell 1
          have x2 : w5.cell? ⟨w.heap.size, 2, none⟩ = some (.int .i64 buyer) := hx.cell 2
          have x4 : w5.cell? ⟨w.heap.size, 4, none⟩ = some (.slice Axt tr.length cxt) := hx.cell 4
          have x5 : w5.cell? ⟨w.heap.size, 5, none⟩ = some (.slice Axs ts.length cxs) := hx.cell 5
          clear hx
          go_wp2_with fail
          refine (num29_any z3 hsm.1 hsm.2 w5).mono ?_
          rintro e _ ⟨rfl, rfl⟩
          go_wp2_with fail
          refine (refWrong_any n bs buyer 1 tr ts _ _ _ R Rt Rs w5 (HBX.out.grow (HBW.out.trans (HK5.out.mono HBW.out.size))) (HTX.out.grow (HBW.out.trans (HK5.out.mono HBW.out.size))) (HSX.out.grow (HBW.out.trans (HK5.out.mono HBW.out.size))) (by omega) hb (by omega)).mono ?_
          rintro e w6 ⟨rfl, hb6⟩
          rw [← HZ3.out]
          have HK6 := Lib.hid (HK5.out.trans (hb6.mono HK5.out.size))
          clear hb6
          clear x0 x1 x2 x4 x5
          go_wp2_with fail
          refine (works29_any w6).mono ?_
          rintro e wf ⟨rfl, hbf⟩
          have HBF := Lib.hid ((HBW.out.trans (HK6.out.mono HBW.out.size)).trans (hbf.mono (HBW.out.trans (HK6.out.mono HBW.out.size)).size))
          clear hbf
          go_wp2_with fail
          go_ret
          exact ⟨rfl, HBF.out⟩
end Go.Proofs.Ytcigobiolbojhaa.Vb
